/- Lemmas of the proof of CollectNeed, part 8. No condition. -/
import Derived.Test.YtkfmlehhbanopaaGreatZCollectNeed7
namespace Go.Proofs.YtkfmlehhbanopaaGreat
set_option linter.unusedVariables false
set_option linter.unusedSimpArgs false
section
open Go.RowKit
/-- What it makes of an environment. -/
def mvM (to:List Int):List Int→Option (List Int)
 |[]=>some []
 |x :: xs=>(fC to x).bind fun y=>(mvM to xs).bind fun ys=>some (y :: ys)
theorem ao1 {to:List Int} :∀{xs r:List Int},mvM to xs=some r→r.length=xs.length
 |[],r,h=>by simp [mvM] at h; subst h; rfl
 |x :: xs,r,h=>by
  simp only [mvM] at h
  obtain ⟨y,h1,h⟩:=bnd h
  obtain ⟨ys,h2,h⟩:=bnd h
  simp only [Option.some.injEq] at h
  subst h
  simp [ao1 h2]
theorem aEV {to:List Int} :∀{xs r:List Int} {k:Nat} {x:Int},mvM to xs=some r→xs[k]? = some x→∃y,fC to x=some y∧r[k]? = some y
 |[],r,k,x,h,hx=>by simp at hx
 |x :: xs,r,k,z,h,hx=>by
  simp only [mvM] at h
  obtain ⟨y,h1,h⟩:=bnd h
  obtain ⟨ys,h2,h⟩:=bnd h
  simp only [Option.some.injEq] at h
  subst h
  cases k with
  |zero=>simp at hx; subst hx; exact ⟨y,h1,rfl⟩
  |succ k=>simp at hx; simpa using aEV h2 hx
theorem agl {α:Type} {l:List α} {k:Nat} {x:α} (h:l[k]? = some x):l.take (k+1)=l.take k ++ [x]:=by
 rw [List.take_add_one,h]; rfl
theorem aJ8 (A:Option Addr) (n c:Nat) (xs to r:List Int) (hr:mvM to xs=some r) (bs:List Nat) (w:World) (bt:Nat) (At:Option Addr) (nt ct:Nat) (hx:iV mF 1 w A n xs bs) (hnd:bs.Nodup) (hn:n≤9223372036854775807)
  (hbt:w.cell? ⟨bt,0,none⟩=some (.slice At nt ct)) (ht:aY nR 1 w w.heap.size At nt to) (hnt:nt≤9223372036854775807) (d1:bt ∉ bs) (d2 :∀b o,At=some ⟨b,o,none⟩→b ∉ bs) :
  Calls Tryz.prog 29 #[.slice A n c,.pointer (some ⟨bt,0,none⟩)] w fun e w'=>e=.returned (.tuple #[])∧iV mF 1 w' A n r bs∧Only bs w w'∧Hid (Rows w w'):=by
 have lx:=Lib.hid hx.len
 have lt:=Lib.hid ht.len
 have lr:=Lib.hid (ao1 hr)
 have HR:=Lib.hid hr
 have hmid:=Lib.hid hx.mid
 have HT:=Lib.hid ht
 have HB:=Lib.hid hbt
 clear hx ht hr hbt
 go_enter Tryz.func29,Tryz.ntmps29
 go_wp2
 go_loopw [7] (fun i wr=>∃k:Nat,k≤n∧i=.int .i64 k∧Only bs w wr∧Hid (Rows w wr)∧Hid (KP mF 1 wr A (r.take k) (xs.drop k) bs)) (fun i _=>n - (intOf i).toNat)
 case atStart=>exact ⟨0,by omega,rfl,Only.refl _ _,(Rows.refl w),hmid.out⟩
 case round=>
  obtain ⟨k,hk,rfl,ho,hrw,hm⟩:=hrel
  by_cases hlt:k < n
  ·obtain ⟨x,hxk⟩ :∃x,xs[k]? = some x:=⟨_,List.getElem?_eq_getElem (by have:=lx.out; omega)⟩
   obtain ⟨y,hy,hrk⟩:=aEV HR.out hxk
   obtain ⟨m,hmx,hml,hyk⟩:=aU hy
   have hm:=hm.out
   rw [SC hxk] at hm
   obtain ⟨b,o,cs,b1,bx,b2,rfl,hbs,hO,hc,h1,h2⟩:=hm.next
   obtain ⟨rfl,rfl⟩:=hO
   have hlen:(r.take k).length=k:=by rw [List.length_take]; have:=lr.out; have:=lx.out; omega
   rw [hlen,Nat.mul_one] at hc h2
   obtain ⟨hc1,hc2⟩:=hc 0 _ rfl
   rw [Nat.add_zero] at hc1 hc2
   subst hmx
   have hmt:m < nt:=by have:=lt.out; omega
   obtain ⟨b3,o3,z,hAt,hb3,hz,hcz⟩:=HT.out.int hmt
   rw [hyk] at hz
   obtain rfl:y=z:=by injection hz
   have bdT:=ho.aoZ (d2 _ _ hAt) hcz
   have a6J:=ho.aoZ d1 HB.out
   rw [hAt] at a6J
   have HN:=Lib.hid hbs
   have Hx:=Lib.hid hxk
   have H1:=Lib.hid h1
   have H2:=Lib.hid h2
   have HK:=Lib.hid hrk
   have HL:=Lib.hid hlen
   have HAt:=Lib.hid hAt
   clear hbs hxk h1 h2 hm hc hcz hz hyk hy hrk hlen hAt
   go_wp2
   go_roundw
   case rel=>
    have hnd':=hnd
    rw [HN.out] at hnd'
    have hb:b ∉ b1∧b ∉ b2:=by simpa using (List.nodup_cons.1 hnd').1
    refine ⟨k+1,by omega,by go_num,ho.setCell (p:=⟨b,o+k,none⟩) (by rw [HN.out]; simp) _,hrw.out.setCell _ _ _,?_⟩
    rw [agl HK.out,HN.out]
    refine KP.step (o:=o) rfl (vO.Jg gW (vs:=[.int .i64 y]) (p:=o+k) H1.out hb.1 (Or.inr (by have:=HL.out; omega))) ⟨rfl,rfl⟩ ?_ ?_
    ·rw [HL.out,Nat.mul_one]
     exact Gm (vs:=[.int .i64 y]) (fun j hj=>⟨_,by simp at hj; subst hj; exact hc1⟩) (fun j hj=>by simp at hj; subst hj; exact hc2)
    ·rw [HL.out,Nat.mul_one]
     exact vO.Jg gW (vs:=[.int .i64 y]) (p:=o+k) H2.out hb.2 (Or.inl (by simp))
   case measure=>simp [intOf]; omega
  ·obtain rfl:n=k:=by omega
   have hm:=hm.out
   rw [List.drop_of_length_le (by have:=lx.out; omega),List.take_of_length_le (by have:=lr.out; have:=lx.out; omega)] at hm
   have Hm:=Lib.hid (hm.whole (n:=n) (by have:=lr.out; have:=lx.out; omega))
   clear hm
   go_wp2
   go_end0
   exact ⟨rfl,Hm.out,ho,hrw.out⟩
/-- The environment that an element owns. -/
theorem agC {A:Option Addr} {n c lo bt:Nat} {tb:TypeId} {vt:Value} {xs to r:List Int} {l:List Nat} (hr:mvM to xs=some r) (w:World) (hx:iV mF 1 w A n xs l) (hnd:l.Nodup) (hc:n≤c∧c≤maxLen)
  (B:dD w bt tb #[vt]) (G:aA 2 encI 1 w lo vt to) (d1:bt ∉ l) (d2:Ap (fb vt) l) :
  Calls Tryz.prog 29 #[.slice A n c,.pointer (some ⟨bt,0,none⟩)] w fun e w'=>e=.returned (.tuple #[])∧iV mF 1 w' A n r l∧Only l w w':=by
 obtain ⟨At,ct,rfl⟩:=G.form
 obtain ⟨h1,h2,h3⟩:=aA.sl fI G
 have q:=hc.2
 unfold maxLen at q h3
 refine (aJ8 A n c xs to r hr l w bt At to.length ct hx hnd (by omega) (by rw [B.cell]; rfl) h1 (by omega) d1 (fun b o e hin=>?_)).mono ?_
 ·subst e
  exact d2 b (yE.2 rfl) hin
 ·rintro e w' ⟨he,h4,h5,_⟩
  exact ⟨he,h4,h5⟩
theorem asa :∀r:List Int,(r.flatMap encI).length=r.length * 1
 |[]=>rfl
 |x :: r=>by simp [asa r,encI]
theorem am8 :∀(r:List Int) (k:Nat),(r.flatMap encI)[k]? = (r[k]?).map fun x=>Value.int .i64 x
 |[],k=>by simp
 |x :: r,0=>by simp [encI]
 |x :: r,k+1=>by simpa [encI] using am8 r k
/-- An environment of the call's own. -/
theorem aIh {lo lo' bt:Nat} {tb:TypeId} {v vt:Value} {xs to r:List Int} (hr:mvM to xs=some r) (w:World) (hx:aA 2 encI 1 w lo v xs)
  (B:dD w bt tb #[vt]) (G:aA 2 encI 1 w lo' vt to) (d1:v.ownBlock ≠ some bt) (d2:Dj v vt) :
  Calls Tryz.prog 29 #[v,.pointer (some ⟨bt,0,none⟩)] w fun e w'=>e=.returned (.tuple #[])∧aA 2 encI 1 w' lo v r∧Only (fb v) w w':=by
 obtain ⟨At,ct,rfl⟩:=G.form
 obtain ⟨A,c,rfl⟩:=hx.form
 obtain ⟨h1,h2,h3⟩:=aA.sl fI G
 obtain ⟨l,g1,g2,g3,g4⟩:=aA.EN fI hx
 have q:=g4.2
 unfold maxLen at q h3
 refine (aJ8 A xs.length c xs to r hr l w bt At to.length ct g1 g2 (by omega) (by rw [B.cell]; rfl) h1 (by omega) (fun hin=>d1 (yE.1 (g3 _ hin))) (fun b o e hin=>?_)).mono ?_
 ·subst e
  exact d2 b (yE.1 (g3 _ hin)) rfl
 ·rintro e w' ⟨he,h4,h5,h6⟩
  have hl:=ao1 hr
  refine ⟨he,?_,h5.mono g3⟩
  rcases hx.2 with ⟨e1,e2⟩|⟨g,cap,cur,hv,hg,hh,m1,m2,m3,m4⟩
  ·have e3:r=[]:=List.eq_nil_of_length_eq_zero (by omega)
   subst e3
   exact ⟨by simp,.inl ⟨by rw [e1],rfl⟩⟩
  ·obtain ⟨cur',hb',hsz⟩:=h6.out g _ cur hh
   injection hv with e1 e2 e3
   subst e1 e3
   refine ⟨asa r,.inr ⟨g,c,cur',by rw [hl],hg,hb',by rw [hl]; exact m1,m2,by rw [hsz]; exact m3,?_⟩⟩
   have hrd:=h4.reads (yM w'.heap.size) (fun k hk=>by rw [h5.size]; exact (hx.hi k (yE.1 (g3 k hk))))
   refine List.ext_getElem? fun k=>?_
   rw [am8,List.getElem?_take]
   by_cases hk:k < xs.length
   ·obtain ⟨b2,o2,x,ea,_,hx2,hc2⟩:=hrd.int hk
    injection ea with ea
    injection ea with ea1 ea2
    subst ea1 ea2
    rw [dD.cell hb',Nat.zero_add] at hc2
    rw [if_pos (by omega),hx2]
    simpa using hc2
   ·rw [if_neg (by omega),List.getElem?_eq_none (by omega)]; rfl
end
section
open Go.RowKit
set_option maxRecDepth 100000
noncomputable def nZ (Bd:aN):Option (aN × Int):=
  some (Bd,0)
noncomputable def rV (EM:List Int) (EJ:aN) (aj2:Int→aN→Option (aN × Int)) (K3:aN→Option (aN × Int)) (Vh:Int) (EL:aN):Option (aN × Int):=
  (bif (decide (Vh < (EJ.heap.length:Int))) then ((fC EL.heap Vh).bind fun JG=>((mvM EM JG.closure.env).bind fun y153=>(aj2 (Vh+1) (⟨(⟨(⟨EL.control.term.kind,EL.control.term.value,EL.control.term.data,EL.control.term.kids⟩:ak),EL.control.env⟩:ay),EL.stack,(kX EL.heap Vh (⟨JG.done,(⟨JG.closure.term,y153⟩:ay)⟩:bD))⟩:aN)))) else (K3 EL))
noncomputable def iQ (EM:List Int) (EJ:aN) (K3:aN→Option (aN × Int)):Nat→Int→aN→Option (aN × Int)
  |0,_,_=>none
  |g+1,Vh,EL=>rV EM EJ (iQ EM EJ K3 g) K3 Vh EL
noncomputable def lI (EM:List Int) (EJ:aN):Option (aN × Int):=
  (iQ EM EJ nZ (EJ.heap.length+1) 0 EJ)
noncomputable def rW (EM:List Int) (z93:aN) (Jk:Int→aN→Option (aN × Int)) (K2:aN→Option (aN × Int)) (i164:Int) (jX:aN):Option (aN × Int):=
  (bif (decide (i164 < (z93.stack.length:Int))) then ((fC jX.stack i164).bind fun dA=>(bif (dA.kind==1) then ((fC EM dA.value).bind fun Ru=>((fC jX.stack i164).bind fun a6K=>((mvM EM dA.closure.env).bind fun aIi=>(Jk (i164+1) (⟨(⟨(⟨jX.control.term.kind,jX.control.term.value,jX.control.term.data,jX.control.term.kids⟩:ak),jX.control.env⟩:ay),(kX (kX jX.stack i164 (⟨dA.kind,Ru,dA.data,dA.closure⟩:aO)) i164 (⟨(⟨dA.kind,Ru,dA.data,dA.closure⟩:aO).kind,(⟨dA.kind,Ru,dA.data,dA.closure⟩:aO).value,(⟨dA.kind,Ru,dA.data,dA.closure⟩:aO).data,(⟨((⟨dA.kind,Ru,dA.data,dA.closure⟩:aO).closure).term,aIi⟩:ay)⟩:aO)),jX.heap⟩:aN))))) else (bif (dA.kind==2) then ((fC EM dA.value).bind fun Rw=>((fC jX.stack i164).bind fun a6L=>((mvM EM dA.closure.env).bind fun aIj=>(Jk (i164+1) (⟨(⟨(⟨jX.control.term.kind,jX.control.term.value,jX.control.term.data,jX.control.term.kids⟩:ak),jX.control.env⟩:ay),(kX (kX jX.stack i164 (⟨dA.kind,Rw,dA.data,dA.closure⟩:aO)) i164 (⟨(⟨dA.kind,Rw,dA.data,dA.closure⟩:aO).kind,(⟨dA.kind,Rw,dA.data,dA.closure⟩:aO).value,(⟨dA.kind,Rw,dA.data,dA.closure⟩:aO).data,(⟨((⟨dA.kind,Rw,dA.data,dA.closure⟩:aO).closure).term,aIj⟩:ay)⟩:aO)),jX.heap⟩:aN))))) else ((mvM EM dA.closure.env).bind fun aIk=>(Jk (i164+1) (⟨(⟨(⟨jX.control.term.kind,jX.control.term.value,jX.control.term.data,jX.control.term.kids⟩:ak),jX.control.env⟩:ay),(kX jX.stack i164 (⟨dA.kind,dA.value,dA.data,(⟨dA.closure.term,aIk⟩:ay)⟩:aO)),jX.heap⟩:aN)))))) else (K2 jX))
noncomputable def iR (EM:List Int) (z93:aN) (K2:aN→Option (aN × Int)):Nat→Int→aN→Option (aN × Int)
  |0,_,_=>none
  |g+1,i164,jX=>rW EM z93 (iR EM z93 K2 g) K2 i164 jX
noncomputable def lJ (EM:List Int) (z93:aN):Option (aN × Int):=
  ((mvM EM z93.control.env).bind fun y99=>(iR EM z93 (lI EM) (z93.stack.length+1) 0 (⟨(⟨(⟨z93.control.term.kind,z93.control.term.value,z93.control.term.data,z93.control.term.kids⟩:ak),y99⟩:ay),z93.stack,z93.heap⟩:aN)))
noncomputable def rX (d1:aN) (CQ:List Bool) (eU:Int→List Int→aN→Option (aN × Int)) (K1:List Int→aN→Option (aN × Int)) (FQ:Int) (Rt:List Int) (iC:aN):Option (aN × Int):=
  (bif (decide (FQ < (CQ.length:Int))) then ((fC CQ FQ).bind fun azz=>(bif azz then ((fC Rt FQ).bind fun Ja=>((fC d1.heap FQ).bind fun aje=>((fC d1.heap FQ).bind fun asb=>((mV asb.closure).bind fun wG=>((yB (iC.heap.length+([(⟨aje.done,(⟨(⟨wG.term.kind,wG.term.value,wG.term.data,wG.term.kids⟩:ak),wG.env⟩:ay)⟩:bD)]).length≤4294967296)).bind fun _=>(eU (FQ+1) (kX Rt FQ (iC.heap.length:Int)) (⟨(⟨(⟨iC.control.term.kind,iC.control.term.value,iC.control.term.data,iC.control.term.kids⟩:ak),iC.control.env⟩:ay),iC.stack,(iC.heap ++ [(⟨aje.done,(⟨(⟨wG.term.kind,wG.term.value,wG.term.data,wG.term.kids⟩:ak),wG.env⟩:ay)⟩:bD)])⟩:aN))))))) else (eU (FQ+1) Rt iC))) else (K1 Rt iC))
noncomputable def iT (d1:aN) (CQ:List Bool) (K1:List Int→aN→Option (aN × Int)):Nat→Int→List Int→aN→Option (aN × Int)
  |0,_,_,_=>none
  |g+1,FQ,Rt,iC=>rX d1 CQ (iT d1 CQ K1 g) K1 FQ Rt iC
noncomputable def sV (d0:dY) (d1:aN):Option (aN × Int):=
  ((AB d0 d1).bind fun Dv=>(bif Dv then ((yB (d1.heap.length≤4294967296)).bind fun _=>((CS d1).bind fun Lc=>((r_ (d1.heap.length+2) d1).bind fun CQ=>(iT d1 CQ lJ (CQ.length+1) 0 (List.replicate d1.heap.length 0) (⟨(⟨(⟨Lc.control.term.kind,Lc.control.term.value,Lc.control.term.data,Lc.control.term.kids⟩:ak),Lc.control.env⟩:ay),Lc.stack,[]⟩:aN))))) else some ((⟨(⟨(⟨0,0,[],[]⟩:ak),[]⟩:ay),[],[]⟩:aN),1)))
set_option maxHeartbeats 2000000 in
theorem Yn (d0:dY) (d1:aN) (r:aN × Int) (hm:sV d0 d1=some r) (v0:Value) (v1:Value) (w:World) (hv0:St iI w v0 d0) (hv1:St jQ w v1 d1) :
    Calls Tryz.prog 9 #[v0,v1] w fun e w'=>(∃(v0:Value) (v1:Value) (Ag:List Nat) (v2:Value) (v3:Value) (Qb:List Nat) (v4:Value) (Qc:List Nat),e=.returned (.tuple #[.agg #[.int .i64 r.1.control.term.kind,.int .i64 r.1.control.term.value,v0,v1,v2,v3,v4],.int .i64 r.2])∧aA 2 encI 1 w' w.heap.size v0 r.1.control.term.data∧aH 38 dI 4 w' w.heap.size v1 r.1.control.term.kids Ag∧aA 2 encI 1 w' w.heap.size v2 r.1.control.env∧aH 77 dZ 8 w' w.heap.size v3 r.1.stack Qb∧aH 73 fD 6 w' w.heap.size v4 r.1.heap Qc∧Ap (fb v0) Ag∧Dj v0 v2∧Ap Ag (fb v2)∧Ap (fb v0) Qb∧Ap Ag Qb∧Ap (fb v2) Qb∧Ap (fb v0) Qc∧Ap Ag Qc∧Ap (fb v2) Qc∧Ap Qb Qc)∧Below w.heap.size w w':=by
  obtain ⟨lg,rfl,⟨A1,n1,c1,rfl,⟨h1,r1⟩⟩⟩:=hv0;obtain ⟨rfl,q1⟩:=bI h1 r1;obtain ⟨SG,rfl,⟨A2,n2,c2,A3,n3,c3,A4,n4,c4,A5,n5,c5,A6,n6,c6,rfl,⟨h2,r2⟩,⟨h3,r3⟩,⟨h4,r4⟩,⟨h5,r5⟩,⟨h6,r6⟩⟩⟩:=hv1;obtain ⟨rfl,q2⟩:=bI h2 r2;obtain ⟨rfl,q3⟩:=bI h3 r3;obtain ⟨rfl,q4⟩:=bI h4 r4;obtain ⟨rfl,q5⟩:=bI h5 r5;obtain ⟨rfl,q6⟩:=bI h6 r6;have T:=Below.refl w.heap.size w;unfold sV at hm;refine enter 113 Tryz.func9 rfl rfl rfl ?_;intro f hf;have s0:f 0=.agg #[.slice A1 d0.defs.length c1]:=hf 0 _ rfl;have s1:f 1=.agg #[.int .i64 d1.control.term.kind,.int .i64 d1.control.term.value,.slice A2 d1.control.term.data.length c2,.slice A3 d1.control.term.kids.length c3,.slice A4 d1.control.env.length c4,.slice A5 d1.stack.length c5,.slice A6 d1.heap.length c6]:=hf 1 _ rfl;refine wp_seq<|bF rfl ?_;refine RL.box rfl s0 (fun w7 B8 Zc aj_=>?_);replace B8:dD w7 w.heap.size 48 #[.slice A1 d0.defs.length c1]:=B8;have GB8:w.heap.size≤w.heap.size:=T.size;have T:=Tt T Zc;refine RL.box rfl s1 (fun uS gY Ad WV=>?_);replace gY:dD uS w7.heap.size 44 #[.int .i64 d1.control.term.kind,.int .i64 d1.control.term.value,.slice A2 d1.control.term.data.length c2,.slice A3 d1.control.term.kids.length c3,.slice A4 d1.control.env.length c4,.slice A5 d1.stack.length c5,.slice A6 d1.heap.length c6]:=gY;have ap_:w.heap.size≤w7.heap.size:=T.size;have z_:=Nat.ne_of_lt B8.lt;have B8:=aX B8 Ad;have T:=Tt T Ad;refine RL.alloc (z:=.agg #[.int .i64 0,.int .i64 0,.slice none 0 0,.slice none 0 0,.slice none 0 0,.slice none 0 0,.slice none 0 0]) rfl (by kernel_rfl) (fun w15 jf Dq amo=>?_);replace jf:dD w15 uS.heap.size 44 #[.int .i64 0,.int .i64 0,.slice none 0 0,.slice none 0 0,.slice none 0 0,.slice none 0 0,.slice none 0 0]:=jf;have aLu:w.heap.size≤uS.heap.size:=T.size;have auP:=Nat.ne_of_lt B8.lt;have Jm:=Nat.ne_of_lt gY.lt;have B8:=aX B8 Dq;have gY:=aX gY Dq;have T:=Tt T Dq;refine Ez (.int .i64 0)<|RL.nil<|ah<|wp_seq<|wp_seq<|cZ rfl<|LC [.slice A1 d0.defs.length c1] rfl (FD (bV (aj B8 (i:=0) rfl)))<|LC [.int .i64 d1.control.term.kind,.int .i64 d1.control.term.value,.slice A2 d1.control.term.data.length c2,.slice A3 d1.control.term.kids.length c3,.slice A4 d1.control.env.length c4,.slice A5 d1.stack.length c5,.slice A6 d1.heap.length c6] rfl (Ul (bV (aj gY (i:=0) rfl)) (bV (aj gY (i:=1) rfl)) (bV (aj gY (i:=2) rfl)) (bV (aj gY (i:=3) rfl)) (bV (aj gY (i:=4) rfl)) (bV (aj gY (i:=5) rfl)) (bV (aj gY (i:=6) rfl))) ?_
  obtain ⟨Dv,e20,hm⟩:=bnd hm;refine RQ.call rfl (qV rfl rfl) (by kernel_rfl) (v:=.bool Dv) (bel (K:=fun _=>True) fun w' hb'=>(aay d0 d1 _ e20 _ _ w' (fE (R:=iI) ⟨_,_,_,rfl,⟨aY.now aK h1 (dB) (Tt T hb'),r1⟩⟩) (fE (R:=jQ) ⟨_,_,_,_,_,_,_,_,_,_,_,_,_,_,_,rfl,⟨aY.now aG h2 (dB) (Tt T hb'),r2⟩,⟨aY.now aK h3 (dB) (Tt T hb'),r3⟩,⟨aY.now aG h4 (dB) (Tt T hb'),r4⟩,⟨aY.now kF h5 (dB) (Tt T hb'),r5⟩,⟨aY.now nN h6 (dB) (Tt T hb'),r6⟩⟩)))<|RQ.y rfl (Y.not (b':=(!Dv)) rfl rfl)<|RQ.nil ?_;intro w21 SI;have awk:=SI.size;have gY:=aX gY SI;have jf:=aX jf SI;have T:=Tt T SI;refine ah ?_;rcases aB Dv with c23|c23
  ·replace hm:=cF c23 hm;refine dX rfl (gQ rfl c23 rfl)<|wp_seq<|bF rfl<|RL.y rfl (Y.asM (cells:=#[.int .i64 0,.int .i64 0,.slice none 0 0,.slice none 0 0,.slice none 0 0,.slice none 0 0,.slice none 0 0])  (by kernel_rfl) (by kernel_rfl)) ?_;refine RL.store (v:=.agg #[.int .i64 0,.int .i64 0,.slice none 0 0,.slice none 0 0,.slice none 0 0,.slice none 0 0,.slice none 0 0]) (cs':=#[.int .i64 0,.int .i64 0,.slice none 0 0,.slice none 0 0,.slice none 0 0,.slice none 0 0,.slice none 0 0]) rfl rfl rfl jf (by kernel_rfl) (by rfl) (by rfl) (by rfl) (fun w24 B25 aec=>?_);have afl:=aec.size;have gY:=gY.bK aec (by intro hin; simp at hin; exact Jm hin);have T:=T.trans (aec.below (by first|(simp; done)|(simp; omega)));refine Ez (.int .i64 1)<|RL.nil<|ah<|wp_ret ?_;obtain rfl:=sj hm;exact (aF (av2 (cs:=[.int .i64 0,.int .i64 0,.slice none 0 0,.slice none 0 0,.slice none 0 0,.slice none 0 0,.slice none 0 0]) rfl rfl rfl rfl (by kernel_rfl) (n_ B25) ⟨⟨_,_,_,_,_,_,_,_,rfl,aA.nil,aH.nil,aA.nil,aH.nil,aH.nil,Ap.nil,Dj.nil,Ap.nil,Ap.nil,Ap.nil,Ap.nil,Ap.nil,Ap.nil,Ap.nil,Ap.nil⟩,T⟩))
  replace hm:=cT c23 hm;refine gU rfl (gQ rfl c23 rfl)<|wp_skip<|ah<|wp_seq<|bF rfl<|rC 6 rfl<|I7 (.slice A6 d1.heap.length c6) rfl (cu (aj gY (i:=6) rfl))<|aLz rfl ?_;obtain ⟨_,m27,hm⟩:=bnd hm;have anv:=h_ m27;refine RL.make (enc:=encI) (z0:=0) (n:=d1.heap.length) Gs (by decide) rfl rfl rfl rfl anv (fun Jd QJ KY aQV=>?_);replace QJ:=aA.mono QJ T.size;have azA:=apP (n:=d1.heap.length) (c:=d1.heap.length) gY.lt;have azB:=apP (n:=d1.heap.length) (c:=d1.heap.length) jf.lt;have gY:=aX gY KY;have jf:=aX jf KY;have T:=Tt T KY;refine RL.alloc (z:=.slice none 0 0) rfl (by kernel_rfl) (fun w34 B35 Jl awJ=>?_);replace B35:dD w34 Jd.heap.size 25 #[.slice none 0 0]:=B35;have a5I:w.heap.size≤Jd.heap.size:=T.size;have avc:=Nat.ne_of_lt gY.lt;have ajf:=Nat.ne_of_lt jf.lt;have am9:=aA.far QJ (dB);have gY:=aX gY Jl;have jf:=aX jf Jl;have QJ:=aA.below QJ Jl;have T:=Tt T Jl;refine RL.store (v:=.slice (some ⟨w21.heap.size,0,none⟩) d1.heap.length d1.heap.length) (cs':=#[.slice (some ⟨w21.heap.size,0,none⟩) d1.heap.length d1.heap.length]) rfl rfl rfl B35 (by kernel_rfl) (by rfl) (by rfl) (by rfl) (fun w38 B39 I_=>?_);have ap3:=I_.size;have gY:=gY.bK I_ (by intro hin; simp at hin; exact avc hin);have jf:=jf.bK I_ (by intro hin; simp at hin; exact ajf hin);have QJ:=aA.only QJ I_ am9;have T:=T.trans (I_.below (by first|(simp; done)|(simp; omega)));refine RL.nil<|ah<|wp_seq<|bF rfl<|Sm [.int .i64 d1.control.term.kind,.int .i64 d1.control.term.value,.slice A2 d1.control.term.data.length c2,.slice A3 d1.control.term.kids.length c3,.slice A4 d1.control.env.length c4,.slice A5 d1.stack.length c5,.slice A6 d1.heap.length c6] rfl (Ul (cu (aj gY (i:=0) rfl)) (cu (aj gY (i:=1) rfl)) (cu (aj gY (i:=2) rfl)) (cu (aj gY (i:=3) rfl)) (cu (aj gY (i:=4) rfl)) (cu (aj gY (i:=5) rfl)) (cu (aj gY (i:=6) rfl))) ?_;obtain ⟨Lc,e42,hm⟩:=bnd hm;refine RL.call rfl (qZ rfl) (by kernel_rfl) ((acJ d1 _ e42 _ _ (fE (R:=jQ) ⟨_,_,_,_,_,_,_,_,_,_,_,_,_,_,_,rfl,⟨aY.now aG h2 (dB) T,r2⟩,⟨aY.now aK h3 (dB) T,r3⟩,⟨aY.now aG h4 (dB) T,r4⟩,⟨aY.now kF h5 (dB) T,r5⟩,⟨aY.now nN h6 (dB) T,r6⟩⟩)).mono ?_);rintro _ LK ⟨⟨v43,v46,azC,v50,v53,azD,v57,aIl,rfl,MF,G47,G51,G54,G58,aEW,aEX,aEY,aEZ,aE0,aE1,aU3,aU4,aU5,aU6⟩,azE⟩
  refine ⟨_,rfl,?_⟩;have aJu:=azE.size;have asc:=T.size;have amT:=aJ (Ap.new (aA.dU MF) (aI gY.lt));have aeG:=aJ (Ap.new (aA.dU MF) (aI jf.lt));have azF:=aJ (Ap.new (aA.dU MF) (aI B39.lt));have aE2:=Ap.dj (Ap.new (aA.dU MF) (aA.je QJ));have azG:Ap azC [w7.heap.size]:=(Ap.new (aH.jB G47) (aI gY.lt));have azH:Ap azC [uS.heap.size]:=(Ap.new (aH.jB G47) (aI jf.lt));have azI:Ap azC [Jd.heap.size]:=(Ap.new (aH.jB G47) (aI B39.lt));have aE3:Ap azC (fb (.slice (some ⟨w21.heap.size,0,none⟩) d1.heap.length d1.heap.length)):=(Ap.new (aH.jB G47) (aA.je QJ));have azJ:=aJ (Ap.new (aA.dU G51) (aI gY.lt));have azK:=aJ (Ap.new (aA.dU G51) (aI jf.lt));have azL:=aJ (Ap.new (aA.dU G51) (aI B39.lt));have aE4:=Ap.dj (Ap.new (aA.dU G51) (aA.je QJ));have azM:Ap azD [w7.heap.size]:=(Ap.new (aH.jB G54) (aI gY.lt));have azN:Ap azD [uS.heap.size]:=(Ap.new (aH.jB G54) (aI jf.lt));have azO:Ap azD [Jd.heap.size]:=(Ap.new (aH.jB G54) (aI B39.lt));have aE5:Ap azD (fb (.slice (some ⟨w21.heap.size,0,none⟩) d1.heap.length d1.heap.length)):=(Ap.new (aH.jB G54) (aA.je QJ));have aPw:Ap aIl [w7.heap.size]:=(Ap.new (aH.jB G58) (aI gY.lt));have aPx:Ap aIl [uS.heap.size]:=(Ap.new (aH.jB G58) (aI jf.lt));have aPy:Ap aIl [Jd.heap.size]:=(Ap.new (aH.jB G58) (aI B39.lt));have aU7:Ap aIl (fb (.slice (some ⟨w21.heap.size,0,none⟩) d1.heap.length d1.heap.length)):=(Ap.new (aH.jB G58) (aA.je QJ));have gY:=aX gY azE;have jf:=aX jf azE;have B39:=aX B39 azE;have QJ:=aA.below QJ azE;have T:=Tt T azE;replace MF:=aA.mono MF asc;replace G47:=aH.mono G47 asc;replace G51:=aA.mono G51 asc;replace G54:=aH.mono G54 asc;replace G58:=aH.mono G58 asc;refine RL.alloc (z:=.agg #[.int .i64 0,.int .i64 0,.slice none 0 0,.slice none 0 0,.slice none 0 0,.slice none 0 0,.slice none 0 0]) rfl (by kernel_rfl) (fun w63 B64 Wi aPS=>?_);replace B64:dD w63 LK.heap.size 44 #[.int .i64 0,.int .i64 0,.slice none 0 0,.slice none 0 0,.slice none 0 0,.slice none 0 0,.slice none 0 0]:=B64;have bdU:w.heap.size≤LK.heap.size:=T.size;have aa3:=Nat.ne_of_lt gY.lt;have Vj:=Nat.ne_of_lt jf.lt;have aa4:=Nat.ne_of_lt B39.lt;have aeI:=aA.far QJ (dB);have aeJ:=aA.far MF (dB);have aeK:=Ap.far (aH.hi G47)
  have aeL:=aA.far G51 (dB);have aeM:=Ap.far (aH.hi G54);have am_:=Ap.far (aH.hi G58);have gY:=aX gY Wi;have jf:=aX jf Wi;have B39:=aX B39 Wi;have QJ:=aA.below QJ Wi;have MF:=aA.below MF Wi;have G47:=aH.below aC G47 Wi;have G51:=aA.below G51 Wi;have G54:=aH.below aQ G54 Wi;have G58:=aH.below aS G58 Wi;have T:=Tt T Wi;obtain ⟨A67,c68,rfl⟩:=aA.form MF;have a_L:=aA.bound MF;obtain ⟨A69,c70,rfl⟩:=aH.form G47;have a_M:=aH.bound G47;obtain ⟨A71,c72,rfl⟩:=aA.form G51;have a_N:=aA.bound G51;obtain ⟨A73,c74,rfl⟩:=aH.form G54;have aR1:=aH.bound G54;obtain ⟨A75,c76,rfl⟩:=aH.form G58;have aR2:=aH.bound G58;refine RL.store (v:=.agg #[.int .i64 Lc.control.term.kind,.int .i64 Lc.control.term.value,.slice A67 Lc.control.term.data.length c68,.slice A69 Lc.control.term.kids.length c70,.slice A71 Lc.control.env.length c72,.slice A73 Lc.stack.length c74,.slice A75 Lc.heap.length c76]) (cs':=#[.int .i64 Lc.control.term.kind,.int .i64 Lc.control.term.value,.slice A67 Lc.control.term.data.length c68,.slice A69 Lc.control.term.kids.length c70,.slice A71 Lc.control.env.length c72,.slice A73 Lc.stack.length c74,.slice A75 Lc.heap.length c76]) rfl rfl rfl B64 (by kernel_rfl) (by rfl) (by rfl) (by rfl) (fun w77 B78 ajg=>?_);have a_O:=ajg.size;have gY:=gY.bK ajg (by intro hin; simp at hin; exact aa3 hin);have jf:=jf.bK ajg (by intro hin; simp at hin; exact Vj hin);have B39:=B39.bK ajg (by intro hin; simp at hin; exact aa4 hin);have QJ:=aA.only QJ ajg aeI;have MF:=aA.only MF ajg aeJ;have G47:=aH.only aC G47 ajg (Ap.one aeK);have G51:=aA.only G51 ajg aeL;have G54:=aH.only aQ G54 ajg (Ap.one aeM);have G58:=aH.only aS G58 ajg (Ap.one am_);have T:=T.trans (ajg.below (by first|(simp; done)|(simp; omega)));refine RL.nil<|ah<|wp_seq<|bF rfl<|rC 6 rfl ?_;refine RL.store (v:=.slice none 0 0) (cs':=#[.int .i64 Lc.control.term.kind,.int .i64 Lc.control.term.value,.slice A67 Lc.control.term.data.length c68,.slice A69 Lc.control.term.kids.length c70,.slice A71 Lc.control.env.length c72,.slice A73 Lc.stack.length c74,.slice none 0 0]) rfl rfl rfl B78 (by kernel_rfl) (by rfl) (by rfl) (by rfl) (fun w80 B81 abI=>?_);have aRA:=abI.size;have gY:=gY.bK abI (by intro hin; simp at hin; exact aa3 hin);have jf:=jf.bK abI (by intro hin; simp at hin; exact Vj hin)
  have B39:=B39.bK abI (by intro hin; simp at hin; exact aa4 hin);have QJ:=aA.only QJ abI aeI;have MF:=aA.only MF abI aeJ;have G47:=aH.only aC G47 abI (Ap.one aeK);have G51:=aA.only G51 abI aeL;have G54:=aH.only aQ G54 abI (Ap.one aeM);have G58:=aH.only aS G58 abI (Ap.one am_);have T:=T.trans (abI.below (by first|(simp; done)|(simp; omega)));refine RL.nil<|ah<|wp_seq<|wp_seq<|bF rfl ?_;obtain ⟨CQ,e84,hm⟩:=bnd hm;refine RL.call rfl (qZ rfl) (by kernel_rfl) ((aaD (d1.heap.length+2) d1 _ e84 _ _ (Vw (R:=jQ) gY ⟨_,_,_,_,_,_,_,_,_,_,_,_,_,_,_,rfl,⟨aY.now aG h2 (dB) T,r2⟩,⟨aY.now aK h3 (dB) T,r3⟩,⟨aY.now aG h4 (dB) T,r4⟩,⟨aY.now kF h5 (dB) T,r5⟩,⟨aY.now nN h6 (dB) T,r6⟩⟩)).mono ?_);rintro _ w88 ⟨⟨v85,rfl,Lm⟩,ajh⟩;refine ⟨_,rfl,?_⟩;have a_P:=ajh.size;have aU8:=T.size;have aPz:=aJ (Ap.new (aA.dU Lm) (aI gY.lt));have aPA:=aJ (Ap.new (aA.dU Lm) (aI jf.lt));have am6:=aJ (Ap.new (aA.dU Lm) (aI B39.lt));have azP:=aJ (Ap.new (aA.dU Lm) (aI B81.lt));have aE6:=Ap.dj (Ap.new (aA.dU Lm) (aA.je QJ));have aE7:=Ap.dj (Ap.new (aA.dU Lm) (aA.je MF));have aE8:Ap (fb v85) azC:=(Ap.new (aA.dU Lm) (aH.hi G47));have aE9:=Ap.dj (Ap.new (aA.dU Lm) (aA.je G51));have aE_:Ap (fb v85) azD:=(Ap.new (aA.dU Lm) (aH.hi G54));have gY:=aX gY ajh;have jf:=aX jf ajh;have B39:=aX B39 ajh;have B81:=aX B81 ajh;have QJ:=aA.below QJ ajh;have MF:=aA.below MF ajh;have G47:=aH.below aC G47 ajh;have G51:=aA.below G51 ajh;have G54:=aH.below aQ G54 ajh;have T:=Tt T ajh;replace Lm:=aA.mono Lm aU8;obtain ⟨A90,c91,rfl⟩:=aA.form Lm;have a_Q:=aA.bound Lm;refine aLz rfl<|aLm (.int .i64 0)<|RL.nil<|ah<|wp_block ?_;obtain ⟨K1,hK1,hm⟩ :∃K,K=lJ∧iT d1 CQ K (CQ.length+1) 0 (List.replicate d1.heap.length 0) (⟨(⟨(⟨Lc.control.term.kind,Lc.control.term.value,Lc.control.term.data,Lc.control.term.kids⟩:ak),Lc.control.env⟩:ay),Lc.stack,[]⟩:aN)=some r:=⟨_,rfl,hm⟩;refine dG (fun g f w'=>∃(FQ:Int) (Rt:List Int) (iC:aN) (Ak:Value) (iD:Value) (yw:Value) (fG:List Nat) (iE:Value) (yx:Value) (fH:List Nat) (Dn:Value) (fZ:List Nat),f 3=.pointer (some ⟨w7.heap.size,0,none⟩)∧f 4=.pointer (some ⟨uS.heap.size,0,none⟩)∧f 6=.pointer (some ⟨Jd.heap.size,0,none⟩)∧f 7=.pointer (some ⟨LK.heap.size,0,none⟩)∧f 27=.slice A90 CQ.length c91∧f 28=.int .i64 (CQ.length:Int)∧f 29=.int .i64 FQ∧0≤FQ∧dD w' Jd.heap.size 25 #[Ak]∧aA 2 encI 1 w' w.heap.size Ak Rt∧dD w' LK.heap.size 44 #[.int .i64 iC.control.term.kind,.int .i64 iC.control.term.value,iD,yw,iE,yx,Dn]∧aA 2 encI 1 w' w.heap.size iD iC.control.term.data∧aH 38 dI 4 w' w.heap.size yw iC.control.term.kids fG∧aA 2 encI 1 w' w.heap.size iE iC.control.env∧aH 77 dZ 8 w' w.heap.size yx iC.stack fH∧aH 73 fD 6 w' w.heap.size Dn iC.heap fZ∧Dj Ak (.slice A90 CQ.length c91)∧Value.ownBlock Ak ≠ some w7.heap.size∧Value.ownBlock Ak ≠ some uS.heap.size∧Value.ownBlock Ak ≠ some Jd.heap.size∧Value.ownBlock Ak ≠ some LK.heap.size∧Dj iD Ak∧Dj iD (.slice A90 CQ.length c91)∧Value.ownBlock iD ≠ some w7.heap.size∧Value.ownBlock iD ≠ some uS.heap.size∧Value.ownBlock iD ≠ some Jd.heap.size∧Value.ownBlock iD ≠ some LK.heap.size∧Ap fG (fb Ak)∧Ap fG (fb iD)∧Ap fG (fb (.slice A90 CQ.length c91))∧Ap fG [w7.heap.size]∧Ap fG [uS.heap.size]∧Ap fG [Jd.heap.size]∧Ap fG [LK.heap.size]∧Dj iE Ak∧Dj iE iD∧Ap (fb iE) fG∧Dj iE (.slice A90 CQ.length c91)∧Value.ownBlock iE ≠ some w7.heap.size∧Value.ownBlock iE ≠ some uS.heap.size∧Value.ownBlock iE ≠ some Jd.heap.size∧Value.ownBlock iE ≠ some LK.heap.size∧Ap fH (fb Ak)∧Ap fH (fb iD)∧Ap fH fG∧Ap fH (fb iE)∧Ap fH (fb (.slice A90 CQ.length c91))∧Ap fH [w7.heap.size]∧Ap fH [uS.heap.size]∧Ap fH [Jd.heap.size]∧Ap fH [LK.heap.size]∧Ap fZ (fb Ak)∧Ap fZ (fb iD)∧Ap fZ fG∧Ap fZ (fb iE)∧Ap fZ fH∧Ap fZ (fb (.slice A90 CQ.length c91))∧Ap fZ [w7.heap.size]∧Ap fZ [uS.heap.size]∧Ap fZ [Jd.heap.size]∧Ap fZ [LK.heap.size]∧dD w' w7.heap.size 44 #[.int .i64 d1.control.term.kind,.int .i64 d1.control.term.value,.slice A2 d1.control.term.data.length c2,.slice A3 d1.control.term.kids.length c3,.slice A4 d1.control.env.length c4,.slice A5 d1.stack.length c5,.slice A6 d1.heap.length c6]∧dD w' uS.heap.size 44 #[.int .i64 0,.int .i64 0,.slice none 0 0,.slice none 0 0,.slice none 0 0,.slice none 0 0,.slice none 0 0]∧aA 4 T_ 1 w' w.heap.size (.slice A90 CQ.length c91) CQ∧Below w.heap.size w w'∧iT d1 CQ K1 g FQ Rt iC=some r) 0 (fun f w'=>∃(EM:List Int) (z93:aN) (L_:Value) (JH:Value) (ao2:Value) (Fb:List Nat) (JI:Value) (ao3:Value) (Fe:List Nat) (ao4:Value) (Fg:List Nat),f 4=.pointer (some ⟨uS.heap.size,0,none⟩)∧f 6=.pointer (some ⟨Jd.heap.size,0,none⟩)∧f 7=.pointer (some ⟨LK.heap.size,0,none⟩)∧dD w' Jd.heap.size 25 #[L_]∧aA 2 encI 1 w' w.heap.size L_ EM∧dD w' LK.heap.size 44 #[.int .i64 z93.control.term.kind,.int .i64 z93.control.term.value,JH,ao2,JI,ao3,ao4]∧aA 2 encI 1 w' w.heap.size JH z93.control.term.data∧aH 38 dI 4 w' w.heap.size ao2 z93.control.term.kids Fb∧aA 2 encI 1 w' w.heap.size JI z93.control.env∧aH 77 dZ 8 w' w.heap.size ao3 z93.stack Fe∧aH 73 fD 6 w' w.heap.size ao4 z93.heap Fg∧Value.ownBlock L_ ≠ some w7.heap.size∧Value.ownBlock L_ ≠ some uS.heap.size∧Value.ownBlock L_ ≠ some Jd.heap.size∧Value.ownBlock L_ ≠ some LK.heap.size∧Dj JH L_∧Value.ownBlock JH ≠ some w7.heap.size∧Value.ownBlock JH ≠ some uS.heap.size∧Value.ownBlock JH ≠ some Jd.heap.size∧Value.ownBlock JH ≠ some LK.heap.size∧Ap Fb (fb L_)∧Ap Fb (fb JH)∧Ap Fb [w7.heap.size]∧Ap Fb [uS.heap.size]∧Ap Fb [Jd.heap.size]∧Ap Fb [LK.heap.size]∧Dj JI L_∧Dj JI JH∧Ap (fb JI) Fb∧Value.ownBlock JI ≠ some w7.heap.size∧Value.ownBlock JI ≠ some uS.heap.size∧Value.ownBlock JI ≠ some Jd.heap.size∧Value.ownBlock JI ≠ some LK.heap.size∧Ap Fe (fb L_)∧Ap Fe (fb JH)∧Ap Fe Fb∧Ap Fe (fb JI)∧Ap Fe [w7.heap.size]∧Ap Fe [uS.heap.size]∧Ap Fe [Jd.heap.size]∧Ap Fe [LK.heap.size]∧Ap Fg (fb L_)∧Ap Fg (fb JH)∧Ap Fg Fb∧Ap Fg (fb JI)∧Ap Fg Fe∧Ap Fg [w7.heap.size]∧Ap Fg [uS.heap.size]∧Ap Fg [Jd.heap.size]∧Ap Fg [LK.heap.size]∧dD w' w7.heap.size 44 #[.int .i64 d1.control.term.kind,.int .i64 d1.control.term.value,.slice A2 d1.control.term.data.length c2,.slice A3 d1.control.term.kids.length c3,.slice A4 d1.control.env.length c4,.slice A5 d1.stack.length c5,.slice A6 d1.heap.length c6]∧dD w' uS.heap.size 44 #[.int .i64 0,.int .i64 0,.slice none 0 0,.slice none 0 0,.slice none 0 0,.slice none 0 0,.slice none 0 0]∧Below w.heap.size w w'∧lJ EM z93=some r) (CQ.length+1) ⟨0,(List.replicate d1.heap.length 0),(⟨(⟨(⟨Lc.control.term.kind,Lc.control.term.value,Lc.control.term.data,Lc.control.term.kids⟩:ak),Lc.control.env⟩:ay),Lc.stack,[]⟩:aN),(.slice (some ⟨w21.heap.size,0,none⟩) d1.heap.length d1.heap.length),(.slice A67 Lc.control.term.data.length c68),(.slice A69 Lc.control.term.kids.length c70),azC,(.slice A71 Lc.control.env.length c72),(.slice A73 Lc.stack.length c74),azD,(.slice none 0 0),[],rfl,rfl,rfl,rfl,rfl,rfl,rfl,(by omega),B39,QJ,B81,MF,G47,G51,G54,aH.nil,(Ap.dj (Ap.symm (Dj.ap aE6))),(aJ (aP azA)),(aJ (aP azB)),(aJ (aP am9)),(aJ (aP aeI)),(Ap.dj (Dj.ap aE2)),(Ap.dj (Ap.symm (Dj.ap aE7))),(aJ (aP amT)),(aJ (aP aeG)),(aJ (aP azF)),(aJ (aP aeJ)),aE3,(Ap.symm aEW),(Ap.symm aE8),azG,azH,azI,aeK,(Ap.dj (Dj.ap aE4)),(Ap.dj (Ap.symm (Dj.ap aEX))),(Ap.symm aEY),(Ap.dj (Ap.symm (Dj.ap aE9))),(aJ (aP azJ)),(aJ (aP azK)),(aJ (aP azL)),(aJ (aP aeL)),aE5,(Ap.symm aEZ),(Ap.symm aE0),(Ap.symm aE1),(Ap.symm aE_),azM,azN,azO,aeM,Ap.nil,Ap.nil,Ap.nil,Ap.nil,Ap.nil,Ap.nil,Ap.nil,Ap.nil,Ap.nil,Ap.nil,gY,jf,Lm,T,hm⟩ ?_ ?_
  ·rintro f w94 ⟨EM,z93,L_,JH,ao2,Fb,JI,ao3,Fe,ao4,Fg,aDJ,ZI,ahQ,uY,fF,aFa,ao5,ao6,agD,acZ,ao7,aIm,aIn,aIo,aIp,aji,aIq,ao8,ao9,ao_,ajj,ajk,aIr,apa,apb,apc,OW,Yo,Yp,aIs,ac0,Vk,ac1,ajl,ajm,ajn,Yq,aIt,apd,ape,apf,ajo,ajp,ajq,Yr,ajr,aIu,apg,aph,apj,gY,jf,T,hm⟩;unfold lJ at hm;refine dW (ah ?_);refine wp_seq<|au rfl<|RQ.y rfl (Y.makeFunc (vals:=#[.pointer (some ⟨Jd.heap.size,0,none⟩)]) (qZ ZI))<|aW (.func (.func 29) #[] #[.pointer (some ⟨Jd.heap.size,0,none⟩)])<|RQ.nil<|ah<|wp_seq<|bF rfl<|aLm (.func (.func 29) #[] #[.pointer (some ⟨Jd.heap.size,0,none⟩)])<|rC 0 ahQ<|rC 4 rfl<|I7 JI rfl (cu (aj aFa (i:=4) rfl)) ?_;obtain ⟨A95,c96,rfl⟩:=aA.form fF;have a_R:=aA.bound fF;obtain ⟨ayj,adZ,rfl⟩:=aA.form agD;have aOr:=aA.bound agD;obtain ⟨y99,e100,hm⟩:=bnd hm;refine RL.Jb rfl rfl (qZ rfl) (by kernel_rfl) ((aIh e100 _ agD uY fF Vk OW).mono ?_);rintro _ w97 ⟨rfl,a6M,alF⟩;refine ⟨_,rfl,?_⟩;have a_S:=alF.size;have jf:=jf.bK alF (fun hq=>(aP ac0) _ hq (by simp));have uY:=uY.bK alF (fun hq=>(aP Vk) _ hq (by simp));have aFa:=aFa.bK alF (fun hq=>(aP ac1) _ hq (by simp));have fF:=aA.Bj fF alF (Ap.symm (Dj.ap OW));have ao5:=aA.Bj ao5 alF (Ap.symm (Dj.ap Yo));have ao6:=aH.Bj aC ao6 alF (Ap.symm Yp);have acZ:=aH.Bj aQ acZ alF Yq;have ao7:=aH.Bj aS ao7 alF Yr;have T:=T.trans (alF.below (fun q hq=>aA.dU agD q hq));refine RL.nil<|ah<|wp_seq<|wp_seq<|au rfl<|gy 5 ahQ<|gZ ao3 rfl (cu (aj aFa (i:=5) rfl)) ?_;obtain ⟨a6N,c105,rfl⟩:=aH.form acZ;have a6O:=aH.bound acZ;refine yH rfl<|dF (.int .i64 0)<|RQ.nil<|ah<|wp_block ?_;obtain ⟨K2,hK2,hm⟩ :∃K,K=(lI EM)∧iR EM z93 K (z93.stack.length+1) 0 (⟨(⟨(⟨z93.control.term.kind,z93.control.term.value,z93.control.term.data,z93.control.term.kids⟩:ak),y99⟩:ay),z93.stack,z93.heap⟩:aN)=some r:=⟨_,rfl,hm⟩
   refine dG (fun g f w'=>∃(i164:Int) (jX:aN) (zU:Value) (Nr:Value) (zV:List Nat) (zW:Value) (ac2:Value) (qU:List Nat) (Ns:Value) (zX:List Nat),f 4=.pointer (some ⟨uS.heap.size,0,none⟩)∧f 6=.pointer (some ⟨Jd.heap.size,0,none⟩)∧f 7=.pointer (some ⟨LK.heap.size,0,none⟩)∧f 10=.func (.func 29) #[] #[.pointer (some ⟨Jd.heap.size,0,none⟩)]∧f 68=ac2∧f 69=.int .i64 (z93.stack.length:Int)∧f 70=.int .i64 i164∧0≤i164∧dD w' LK.heap.size 44 #[.int .i64 jX.control.term.kind,.int .i64 jX.control.term.value,zU,Nr,zW,ac2,Ns]∧aA 2 encI 1 w' w.heap.size zU jX.control.term.data∧aH 38 dI 4 w' w.heap.size Nr jX.control.term.kids zV∧aA 2 encI 1 w' w.heap.size zW jX.control.env∧aH 77 dZ 8 w' w.heap.size ac2 jX.stack qU∧aH 73 fD 6 w' w.heap.size Ns jX.heap zX∧Dj zU (.slice A95 EM.length c96)∧Value.ownBlock zU ≠ some uS.heap.size∧Value.ownBlock zU ≠ some Jd.heap.size∧Value.ownBlock zU ≠ some LK.heap.size∧Ap zV (fb zU)∧Ap zV (fb (.slice A95 EM.length c96))∧Ap zV [uS.heap.size]∧Ap zV [Jd.heap.size]∧Ap zV [LK.heap.size]∧Dj zW zU∧Ap (fb zW) zV∧Dj zW (.slice A95 EM.length c96)∧Value.ownBlock zW ≠ some uS.heap.size∧Value.ownBlock zW ≠ some Jd.heap.size∧Value.ownBlock zW ≠ some LK.heap.size∧Ap qU (fb zU)∧Ap qU zV∧Ap qU (fb zW)∧Ap qU (fb (.slice A95 EM.length c96))∧Ap qU [uS.heap.size]∧Ap qU [Jd.heap.size]∧Ap qU [LK.heap.size]∧Ap zX (fb zU)∧Ap zX zV∧Ap zX (fb zW)∧Ap zX qU∧Ap zX (fb (.slice A95 EM.length c96))∧Ap zX [uS.heap.size]∧Ap zX [Jd.heap.size]∧Ap zX [LK.heap.size]∧dD w' uS.heap.size 44 #[.int .i64 0,.int .i64 0,.slice none 0 0,.slice none 0 0,.slice none 0 0,.slice none 0 0,.slice none 0 0]∧dD w' Jd.heap.size 25 #[.slice A95 EM.length c96]∧aA 2 encI 1 w' w.heap.size (.slice A95 EM.length c96) EM∧Below w.heap.size w w'∧iR EM z93 K2 g i164 jX=some r) 2 (fun f w'=>∃(EJ:aN) (Fh:Value) (agE:Value) (DW:List Nat) (Fj:Value) (agF:Value) (DX:List Nat) (agG:Value) (DY:List Nat),f 4=.pointer (some ⟨uS.heap.size,0,none⟩)∧f 7=.pointer (some ⟨LK.heap.size,0,none⟩)∧f 10=.func (.func 29) #[] #[.pointer (some ⟨Jd.heap.size,0,none⟩)]∧dD w' LK.heap.size 44 #[.int .i64 EJ.control.term.kind,.int .i64 EJ.control.term.value,Fh,agE,Fj,agF,agG]∧aA 2 encI 1 w' w.heap.size Fh EJ.control.term.data∧aH 38 dI 4 w' w.heap.size agE EJ.control.term.kids DW∧aA 2 encI 1 w' w.heap.size Fj EJ.control.env∧aH 77 dZ 8 w' w.heap.size agF EJ.stack DX∧aH 73 fD 6 w' w.heap.size agG EJ.heap DY∧Dj Fh (.slice A95 EM.length c96)∧Value.ownBlock Fh ≠ some uS.heap.size∧Value.ownBlock Fh ≠ some Jd.heap.size∧Value.ownBlock Fh ≠ some LK.heap.size∧Ap DW (fb Fh)∧Ap DW (fb (.slice A95 EM.length c96))∧Ap DW [uS.heap.size]∧Ap DW [Jd.heap.size]∧Ap DW [LK.heap.size]∧Dj Fj Fh∧Ap (fb Fj) DW∧Dj Fj (.slice A95 EM.length c96)∧Value.ownBlock Fj ≠ some uS.heap.size∧Value.ownBlock Fj ≠ some Jd.heap.size∧Value.ownBlock Fj ≠ some LK.heap.size∧Ap DX (fb Fh)∧Ap DX DW∧Ap DX (fb Fj)∧Ap DX (fb (.slice A95 EM.length c96))∧Ap DX [uS.heap.size]∧Ap DX [Jd.heap.size]∧Ap DX [LK.heap.size]∧Ap DY (fb Fh)∧Ap DY DW∧Ap DY (fb Fj)∧Ap DY DX∧Ap DY (fb (.slice A95 EM.length c96))∧Ap DY [uS.heap.size]∧Ap DY [Jd.heap.size]∧Ap DY [LK.heap.size]∧dD w' uS.heap.size 44 #[.int .i64 0,.int .i64 0,.slice none 0 0,.slice none 0 0,.slice none 0 0,.slice none 0 0,.slice none 0 0]∧dD w' Jd.heap.size 25 #[.slice A95 EM.length c96]∧aA 2 encI 1 w' w.heap.size (.slice A95 EM.length c96) EM∧Below w.heap.size w w'∧lI EM EJ=some r) (z93.stack.length+1) ⟨0,(⟨(⟨(⟨z93.control.term.kind,z93.control.term.value,z93.control.term.data,z93.control.term.kids⟩:ak),y99⟩:ay),z93.stack,z93.heap⟩:aN),(JH),(ao2),Fb,(.slice ayj z93.control.env.length adZ),(.slice a6N z93.stack.length c105),Fe,(ao4),Fg,aDJ,ZI,ahQ,rfl,rfl,rfl,rfl,(by omega),aFa,ao5,ao6,a6M,acZ,ao7,(Ap.dj (Dj.ap aji)),(aJ (aP ao8)),(aJ (aP ao9)),(aJ (aP ao_)),ajk,ajj,apa,apb,apc,(Ap.dj (Dj.ap Yo)),Yp,(Ap.dj (Dj.ap OW)),(aJ (aP ac0)),(aJ (aP Vk)),(aJ (aP ac1)),ajm,ajn,Yq,ajl,apd,ape,apf,ajp,ajq,Yr,ajr,ajo,apg,aph,apj,jf,uY,fF,T,hm⟩ ?_ ?_
   ·rintro f bdV ⟨EJ,Fh,agE,DW,Fj,agF,DX,agG,DY,awY,aJ9,aOD,aJ_,aFb,aFc,aFd,aFe,ajs,agm,alG,alH,alI,aeN,agn,alJ,alK,alL,aeO,aeP,agp,alM,alN,alO,aeQ,aeR,aeS,agq,alP,alQ,alR,aeT,aeU,aeV,aeW,agr,alS,alT,alU,jf,uY,fF,T,hm⟩;unfold lI at hm;refine dW (ah ?_);refine wp_seq<|wp_seq<|au rfl<|gy 6 aJ9<|gZ agG rfl (cu (aj aJ_ (i:=6) rfl)) ?_;obtain ⟨aCF,c109,rfl⟩:=aH.form ajs;have aMm:=aH.bound ajs;refine yH rfl<|dF (.int .i64 0)<|RQ.nil<|ah<|wp_block ?_;obtain ⟨K3,hK3,hm⟩ :∃K,K=nZ∧iQ EM EJ K (EJ.heap.length+1) 0 EJ=some r:=⟨_,rfl,hm⟩;refine dG (fun g f w'=>∃(Vh:Int) (EL:aN) (Eh:Value) (ac3:Value) (CU:List Nat) (Ei:Value) (ac4:Value) (CX:List Nat) (ac5:Value) (AZ:List Nat),f 4=.pointer (some ⟨uS.heap.size,0,none⟩)∧f 7=.pointer (some ⟨LK.heap.size,0,none⟩)∧f 10=.func (.func 29) #[] #[.pointer (some ⟨Jd.heap.size,0,none⟩)]∧f 100=ac5∧f 101=.int .i64 (EJ.heap.length:Int)∧f 102=.int .i64 Vh∧0≤Vh∧dD w' LK.heap.size 44 #[.int .i64 EL.control.term.kind,.int .i64 EL.control.term.value,Eh,ac3,Ei,ac4,ac5]∧aA 2 encI 1 w' w.heap.size Eh EL.control.term.data∧aH 38 dI 4 w' w.heap.size ac3 EL.control.term.kids CU∧aA 2 encI 1 w' w.heap.size Ei EL.control.env∧aH 77 dZ 8 w' w.heap.size ac4 EL.stack CX∧aH 73 fD 6 w' w.heap.size ac5 EL.heap AZ∧Dj Eh (.slice A95 EM.length c96)∧Value.ownBlock Eh ≠ some uS.heap.size∧Value.ownBlock Eh ≠ some Jd.heap.size∧Value.ownBlock Eh ≠ some LK.heap.size∧Ap CU (fb Eh)∧Ap CU (fb (.slice A95 EM.length c96))∧Ap CU [uS.heap.size]∧Ap CU [Jd.heap.size]∧Ap CU [LK.heap.size]∧Dj Ei Eh∧Ap (fb Ei) CU∧Dj Ei (.slice A95 EM.length c96)∧Value.ownBlock Ei ≠ some uS.heap.size∧Value.ownBlock Ei ≠ some Jd.heap.size∧Value.ownBlock Ei ≠ some LK.heap.size∧Ap CX (fb Eh)∧Ap CX CU∧Ap CX (fb Ei)∧Ap CX (fb (.slice A95 EM.length c96))∧Ap CX [uS.heap.size]∧Ap CX [Jd.heap.size]∧Ap CX [LK.heap.size]∧Ap AZ (fb Eh)∧Ap AZ CU∧Ap AZ (fb Ei)∧Ap AZ CX∧Ap AZ (fb (.slice A95 EM.length c96))∧Ap AZ [uS.heap.size]∧Ap AZ [Jd.heap.size]∧Ap AZ [LK.heap.size]∧dD w' uS.heap.size 44 #[.int .i64 0,.int .i64 0,.slice none 0 0,.slice none 0 0,.slice none 0 0,.slice none 0 0,.slice none 0 0]∧dD w' Jd.heap.size 25 #[.slice A95 EM.length c96]∧aA 2 encI 1 w' w.heap.size (.slice A95 EM.length c96) EM∧Below w.heap.size w w'∧iQ EM EJ K3 g Vh EL=some r) 4 (fun f w'=>∃(Bd:aN) (IK:Value) (agH:Value) (IL:List Nat) (IQ:Value) (agI:Value) (IU:List Nat) (agJ:Value) (IV:List Nat),f 4=.pointer (some ⟨uS.heap.size,0,none⟩)∧f 7=.pointer (some ⟨LK.heap.size,0,none⟩)∧dD w' LK.heap.size 44 #[.int .i64 Bd.control.term.kind,.int .i64 Bd.control.term.value,IK,agH,IQ,agI,agJ]∧aA 2 encI 1 w' w.heap.size IK Bd.control.term.data∧aH 38 dI 4 w' w.heap.size agH Bd.control.term.kids IL∧aA 2 encI 1 w' w.heap.size IQ Bd.control.env∧aH 77 dZ 8 w' w.heap.size agI Bd.stack IU∧aH 73 fD 6 w' w.heap.size agJ Bd.heap IV∧Value.ownBlock IK ≠ some uS.heap.size∧Value.ownBlock IK ≠ some Jd.heap.size∧Value.ownBlock IK ≠ some LK.heap.size∧Ap IL (fb IK)∧Ap IL [uS.heap.size]∧Ap IL [Jd.heap.size]∧Ap IL [LK.heap.size]∧Dj IQ IK∧Ap (fb IQ) IL∧Value.ownBlock IQ ≠ some uS.heap.size∧Value.ownBlock IQ ≠ some Jd.heap.size∧Value.ownBlock IQ ≠ some LK.heap.size∧Ap IU (fb IK)∧Ap IU IL∧Ap IU (fb IQ)∧Ap IU [uS.heap.size]∧Ap IU [Jd.heap.size]∧Ap IU [LK.heap.size]∧Ap IV (fb IK)∧Ap IV IL∧Ap IV (fb IQ)∧Ap IV IU∧Ap IV [uS.heap.size]∧Ap IV [Jd.heap.size]∧Ap IV [LK.heap.size]∧dD w' uS.heap.size 44 #[.int .i64 0,.int .i64 0,.slice none 0 0,.slice none 0 0,.slice none 0 0,.slice none 0 0,.slice none 0 0]∧dD w' Jd.heap.size 25 #[.slice A95 EM.length c96]∧Below w.heap.size w w'∧nZ Bd=some r) (EJ.heap.length+1) ⟨0,EJ,(Fh),(agE),DW,(Fj),(agF),DX,(.slice aCF EJ.heap.length c109),DY,awY,aJ9,aOD,rfl,rfl,rfl,(by omega),aJ_,aFb,aFc,aFd,aFe,ajs,(Ap.dj (Dj.ap agm)),(aJ (aP alG)),(aJ (aP alH)),(aJ (aP alI)),aeN,agn,alJ,alK,alL,(Ap.dj (Dj.ap aeO)),aeP,(Ap.dj (Dj.ap agp)),(aJ (aP alM)),(aJ (aP alN)),(aJ (aP alO)),aeQ,aeR,aeS,agq,alP,alQ,alR,aeT,aeU,aeV,aeW,agr,alS,alT,alU,jf,uY,fF,T,hm⟩ ?_ ?_
    ·rintro f aYs ⟨Bd,IK,agH,IL,IQ,agI,IU,agJ,IV,aKa,aU9,ac6,Yt,Yu,Yv,Yw,Yx,alV,aF_,aGa,aeX,alW,aGb,aGc,aeY,aeZ,alX,aGd,aGe,ae0,ae1,ae2,alY,aGf,aGg,ae3,ae4,ae5,ae6,alZ,aGh,aGi,jf,uY,T,hm⟩;unfold nZ at hm;refine dW (ah ?_);refine wp_seq<|bF rfl<|Sm [.int .i64 Bd.control.term.kind,.int .i64 Bd.control.term.value,IK,agH,IQ,agI,agJ] aU9 (Ul (cu (aj ac6 (i:=0) rfl)) (cu (aj ac6 (i:=1) rfl)) (cu (aj ac6 (i:=2) rfl)) (cu (aj ac6 (i:=3) rfl)) (cu (aj ac6 (i:=4) rfl)) (cu (aj ac6 (i:=5) rfl)) (cu (aj ac6 (i:=6) rfl))) ?_;obtain ⟨aHS,aHT,rfl⟩:=aA.form Yt;have a6P:=aA.bound Yt;obtain ⟨arp,Jp,rfl⟩:=aH.form Yu;have aOj:=aH.bound Yu;obtain ⟨aHj,c117,rfl⟩:=aA.form Yv;have a6Q:=aA.bound Yv;obtain ⟨aHk,c119,rfl⟩:=aH.form Yw;have a6R:=aH.bound Yw;obtain ⟨aHU,aHV,rfl⟩:=aH.form Yx;have a6S:=aH.bound Yx;refine RL.store (v:=.agg #[.int .i64 Bd.control.term.kind,.int .i64 Bd.control.term.value,.slice aHS Bd.control.term.data.length aHT,.slice arp Bd.control.term.kids.length Jp,.slice aHj Bd.control.env.length c117,.slice aHk Bd.stack.length c119,.slice aHU Bd.heap.length aHV]) (cs':=#[.int .i64 Bd.control.term.kind,.int .i64 Bd.control.term.value,.slice aHS Bd.control.term.data.length aHT,.slice arp Bd.control.term.kids.length Jp,.slice aHj Bd.control.env.length c117,.slice aHk Bd.stack.length c119,.slice aHU Bd.heap.length aHV]) rfl aKa rfl jf (by kernel_rfl) (by rfl) (by rfl) (by rfl) (fun a0r a6T ac7=>?_);have aMc:=ac7.size;have uY:=uY.bK ac7 (by intro hin; simp at hin; exact ajf.symm hin);have ac6:=ac6.bK ac7 (by intro hin; simp at hin; exact Vj.symm hin);have Yt:=aA.only Yt ac7 alV;have Yu:=aH.only aC Yu ac7 (Ap.one alW);have Yv:=aA.only Yv ac7 alX;have Yw:=aH.only aQ Yw ac7 (Ap.one alY);have Yx:=aH.only aS Yx ac7 (Ap.one alZ)
     have T:=T.trans (ac7.below (by first|(simp; done)|(simp; omega)));refine Ez (.int .i64 0)<|RL.nil<|ah<|wp_ret ?_;obtain rfl:=sj hm;exact (av2 (cs:=[.int .i64 Bd.control.term.kind,.int .i64 Bd.control.term.value,.slice aHS Bd.control.term.data.length aHT,.slice arp Bd.control.term.kids.length Jp,.slice aHj Bd.control.env.length c117,.slice aHk Bd.stack.length c119,.slice aHU Bd.heap.length aHV]) rfl rfl aKa rfl (by kernel_rfl) (n_ a6T) ⟨⟨_,_,_,_,_,_,_,_,rfl,Yt,Yu,Yv,Yw,Yx,(Ap.symm aeX),(Ap.dj (Ap.symm (Dj.ap aeY))),(Ap.symm aeZ),(Ap.symm ae0),(Ap.symm ae1),(Ap.symm ae2),(Ap.symm ae3),(Ap.symm ae4),(Ap.symm ae5),(Ap.symm ae6)⟩,T⟩)
    rintro g f aU_ ⟨Vh,EL,Eh,ac3,CU,Ei,ac4,CX,ac5,AZ,aiD,aVa,afy,aFf,aFg,avd,aWO,ac8,IW,IX,IY,IZ,xC,ags,Z5,Z7,Z8,TL,agt,Z9,Z_,aac,TM,TN,agu,aad,aae,aaf,TP,TQ,TR,agv,aag,aah,aai,JJ,JK,JL,JM,Mc,Rx,J7,Ry,jf,uY,fF,T,hm⟩;rcases g with _|g
    ·simp only [iQ] at hm; cases hm
    obtain ⟨aj2,ag9,hm⟩ :∃z,z=iQ EM EJ K3 g∧rV EM EJ z K3 Vh EL=some r:=⟨_,rfl,hm⟩;unfold rV at hm;refine wp_seq<|au rfl<|uZ (.bool (decide (Vh < (EJ.heap.length:Int)))) avd aFg rfl<|RQ.nil<|ah<|wp_seq ?_;rcases aB (decide (Vh < (EJ.heap.length:Int))) with arq|arq
    ·replace hm:=cF arq hm;have aVb:=of_decide_eq_false arq;refine iH arq<|wp_exit ?_;exact (bQ (bQ (iW ⟨_,rfl,⟨EL,(Eh),(ac3),CU,(Ei),(ac4),CX,(ac5),AZ,aiD,aVa,ac8,IW,IX,IY,IZ,xC,(aJ (aP Z5)),(aJ (aP Z7)),(aJ (aP Z8)),TL,Z9,Z_,aac,(Ap.dj (Dj.ap TM)),TN,(aJ (aP aad)),(aJ (aP aae)),(aJ (aP aaf)),TP,TQ,TR,aag,aah,aai,JJ,JK,JL,JM,Rx,J7,Ry,jf,uY,T,(by rw [hK3] at hm; exact hm)⟩⟩)))
    replace hm:=cT arq hm;have aVb:=of_decide_eq_true arq;refine ig arq<|wp_skip<|ah<|wp_seq<|wp_block<|wp_seq<|bF rfl ?_;obtain ⟨a2g,c130,rfl⟩:=aH.form xC;have a6U:=aH.bound xC;obtain ⟨JG,aw8,hm⟩:=bnd hm;obtain ⟨a6V,awT,aVc,aw8⟩:=aU aw8;obtain ⟨aVd,rfl⟩:=aH.GU xC (by omega);refine RL.y rfl (Y.indexAddr (m:=a6V) (sz:=6) aFf avd awT aVc (by kernel_rfl)) ?_;obtain ⟨a_T,aVe,ajt⟩:=aH.rd aS (ZC _) xC aw8;obtain ⟨ahT,n140,abo,aup,n141,c141,aqy,n142,aru,rfl,⟨a6W,a6X⟩,⟨a6Y,a6Z⟩,⟨a6_,a7a⟩⟩:=aVe;obtain ⟨rfl,bdW⟩:=bI a6W a6X;obtain ⟨rfl,bdX⟩:=bI a6Y a6Z;obtain ⟨rfl,bdY⟩:=bI a6_ a7a;have aju:=ajt 5 _ rfl;refine Sm [.bool JG.done,.int .i64 JG.closure.term.kind,.int .i64 JG.closure.term.value,.slice ahT JG.closure.term.data.length abo,.slice aup JG.closure.term.kids.length c141,.slice aqy JG.closure.env.length aru] rfl (QB (cu (ajt 0 _ rfl)) (cu (ajt 1 _ rfl)) (cu (ajt 2 _ rfl)) (cu (ajt 3 _ rfl)) (cu (ajt 4 _ rfl)) (cu (ajt 5 _ rfl))) ?_;refine RL.alloc (z:=.agg #[.bool false,.int .i64 0,.int .i64 0,.slice none 0 0,.slice none 0 0,.slice none 0 0]) rfl (by kernel_rfl) (fun aR6 aCI SL aMr=>?_);replace aCI:dD aR6 aU_.heap.size 73 #[.bool false,.int .i64 0,.int .i64 0,.slice none 0 0,.slice none 0 0,.slice none 0 0]:=aCI;have a_U:w.heap.size≤aU_.heap.size:=T.size;have ase:=Nat.ne_of_lt jf.lt;have asf:=Nat.ne_of_lt uY.lt;have asg:=Nat.ne_of_lt ac8.lt;have al0:=aA.far fF (dB);have ajv:=aA.far IW (dB);have ajw:=Ap.far (aH.hi IX);have ajx:=aA.far IY (dB);have ajy:=Ap.far (aH.hi IZ);have OY:=Ap.far (aH.hi xC);have aju:=Below.ao0 SL (aH.hi xC _ (aH.row xC rfl)) aju;have jf:=aX jf SL;have uY:=aX uY SL;have ac8:=aX ac8 SL;have fF:=aA.below fF SL;have IW:=aA.below IW SL;have IX:=aH.below aC IX SL;have IY:=aA.below IY SL;have IZ:=aH.below aQ IZ SL;have xC:=aH.below aS xC SL;have T:=Tt T SL;refine RL.store (v:=.agg #[.bool JG.done,.int .i64 JG.closure.term.kind,.int .i64 JG.closure.term.value,.slice ahT JG.closure.term.data.length abo,.slice aup JG.closure.term.kids.length c141,.slice aqy JG.closure.env.length aru]) (cs':=#[.bool JG.done,.int .i64 JG.closure.term.kind,.int .i64 JG.closure.term.value,.slice ahT JG.closure.term.data.length abo,.slice aup JG.closure.term.kids.length c141,.slice aqy JG.closure.env.length aru]) rfl rfl rfl aCI (by kernel_rfl) (by rfl) (by rfl) (by rfl) (fun bdZ aOE VK=>?_)
    have a7b:=VK.size;have aju:=Only.aoZ VK (fun hq=>OY _ (aH.row xC rfl) hq) aju;have jf:=jf.bK VK (by intro hin; simp at hin; exact ase hin);have uY:=uY.bK VK (by intro hin; simp at hin; exact asf hin);have ac8:=ac8.bK VK (by intro hin; simp at hin; exact asg hin);have fF:=aA.only fF VK al0;have IW:=aA.only IW VK ajv;have IX:=aH.only aC IX VK (Ap.one ajw);have IY:=aA.only IY VK ajx;have IZ:=aH.only aQ IZ VK (Ap.one ajy);have xC:=aH.only aS xC VK (Ap.one OY);have T:=T.trans (VK.below (by first|(simp; done)|(simp; omega)));refine RL.nil<|ah<|bF rfl<|kE afy<|rC 1 rfl<|rC 4 rfl<|I7 (.slice aqy JG.closure.env.length aru) rfl (cu (aj aOE (i:=5) rfl)) ?_;obtain ⟨y153,e154,hm⟩:=bnd hm;obtain ⟨bd0,aVf,aVg,VL,aVh,aVi⟩:=aH.a6I xC aw8 aju;refine RL.Jb rfl rfl (qZ rfl) (by kernel_rfl) ((agC e154 _ aVf aVg aVh uY fF (fun hq=>J7 _ (VL _ hq) (by simp)) (Ap.sub (Ap.symm Mc) VL)).mono ?_);rintro _ aBf ⟨rfl,aVj,VN⟩;refine ⟨_,rfl,?_⟩;have ati:=VN.size;have jf:=jf.bK VN (fun hq=>Rx _ (VL _ hq) (by simp));have uY:=uY.bK VN (fun hq=>J7 _ (VL _ hq) (by simp));have ac8:=ac8.bK VN (fun hq=>Ry _ (VL _ hq) (by simp));have aOE:=aOE.bK VN (fun hq=>OY _ (VL _ hq) (by simp));have fF:=aA.Bj fF VN (Ap.sub (Ap.symm Mc) VL);have IW:=aA.Bj IW VN (Ap.sub (Ap.symm JJ) VL);have IX:=aH.Bj aC IX VN (Ap.sub (Ap.symm JK) VL);have IY:=aA.Bj IY VN (Ap.sub (Ap.symm JL) VL);have IZ:=aH.Bj aQ IZ VN (Ap.sub (Ap.symm JM) VL);have T:=T.trans (VN.below (fun q hq=>aH.jB xC q (VL q hq)));have a7c:aH 73 fD 6 aBf w.heap.size (.slice (some ⟨aVd,0,none⟩) EL.heap.length c130) (kX EL.heap Vh (⟨JG.done,(⟨JG.closure.term,y153⟩:ay)⟩:bD)) AZ:=by rw [yc awT]; exact aVi aBf _ VN aVj
    refine RL.nil ?_;refine eF (ah ?_);refine au rfl<|RQ.y rfl (Y.dS avd rfl (bn (m:=Vh) (by omega)))<|dF (.int .i64 (Vh+1))<|RQ.nil ?_;exact (ah ⟨g,_,Nat.lt_succ_self _,rfl,⟨(Vh+1),(⟨(⟨(⟨EL.control.term.kind,EL.control.term.value,EL.control.term.data,EL.control.term.kids⟩:ak),EL.control.env⟩:ay),EL.stack,(kX EL.heap Vh (⟨JG.done,(⟨JG.closure.term,y153⟩:ay)⟩:bD))⟩:aN),(Eh),(ac3),CU,(Ei),(ac4),CX,(.slice (some ⟨aVd,0,none⟩) EL.heap.length c130),AZ,aiD,aVa,afy,aFf,aFg,rfl,(by omega),ac8,IW,IX,IY,IZ,a7c,(Ap.dj (Dj.ap ags)),(aJ (aP Z5)),(aJ (aP Z7)),(aJ (aP Z8)),TL,agt,Z9,Z_,aac,(Ap.dj (Dj.ap TM)),TN,(Ap.dj (Dj.ap agu)),(aJ (aP aad)),(aJ (aP aae)),(aJ (aP aaf)),TP,TQ,TR,agv,aag,aah,aai,JJ,JK,JL,JM,Mc,Rx,J7,Ry,jf,uY,fF,T,(by rw [← ag9]; exact hm)⟩⟩)
   rintro g f aCK ⟨i164,jX,zU,Nr,zV,zW,ac2,qU,Ns,zX,aiE,NR,ahg,ajz,aw9,aw_,ana,a7d,A_,mX,mY,mZ,eH,m_,Fp,J8,J9,J_,Ej,Fv,Ko,Kq,Kr,Em,En,Fz,Kt,Ku,Kv,nG,nH,nI,jM,tu,ng,tC,Eo,Ep,Es,nJ,FB,Kw,Ky,Kz,jf,uY,fF,T,hm⟩;rcases g with _|g
   ·simp only [iR] at hm; cases hm
   obtain ⟨Jk,Gw,hm⟩ :∃z,z=iR EM z93 K2 g∧rW EM z93 z K2 i164 jX=some r:=⟨_,rfl,hm⟩;unfold rW at hm;refine wp_seq<|au rfl<|uZ (.bool (decide (i164 < (z93.stack.length:Int)))) ana aw_ rfl<|RQ.nil<|ah<|wp_seq ?_;rcases aB (decide (i164 < (z93.stack.length:Int))) with c167|c167
   ·replace hm:=cF c167 hm;have pc167:=of_decide_eq_false c167;refine iH c167<|wp_exit ?_;exact (bQ (bQ (iW ⟨_,rfl,⟨jX,(zU),(Nr),zV,(zW),(ac2),qU,(Ns),zX,aiE,ahg,ajz,A_,mX,mY,mZ,eH,m_,(Ap.dj (Dj.ap Fp)),(aJ (aP J8)),(aJ (aP J9)),(aJ (aP J_)),Ej,Fv,Ko,Kq,Kr,(Ap.dj (Dj.ap Em)),En,(Ap.dj (Dj.ap Fz)),(aJ (aP Kt)),(aJ (aP Ku)),(aJ (aP Kv)),nG,nH,nI,jM,tu,ng,tC,Eo,Ep,Es,nJ,FB,Kw,Ky,Kz,jf,uY,fF,T,(by rw [hK2] at hm; exact hm)⟩⟩)))
   replace hm:=cT c167 hm;have pc167:=of_decide_eq_true c167;refine ig c167<|wp_skip<|ah<|wp_seq<|wp_block<|wp_seq<|bF rfl<|kE ana ?_;obtain ⟨aM0,ab2,rfl⟩:=aH.form eH;have a7e:=aH.bound eH;obtain ⟨dA,anb,hm⟩:=bnd hm;obtain ⟨ave,axa,aVk,anb⟩:=aU anb;obtain ⟨agw,rfl⟩:=aH.GU eH (by omega);refine RL.y rfl (Y.indexAddr (m:=ave) (sz:=8) aw9 ana axa aVk (by kernel_rfl)) ?_;obtain ⟨a_V,aVl,ac9⟩:=aH.rd aQ (sW _) eH anb;obtain ⟨aFh,n179,aFi,aFj,n180,aFk,ayJ,n181,ayK,aog,n182,c182,rfl,⟨a7f,a7g⟩,⟨a7h,a7i⟩,⟨aNo,aNp⟩,⟨aNq,aNr⟩⟩:=aVl;obtain ⟨rfl,bd1⟩:=bI a7f a7g;obtain ⟨rfl,bd2⟩:=bI a7h a7i;obtain ⟨rfl,a2C⟩:=bI aNo aNp;obtain ⟨rfl,a2D⟩:=bI aNq aNr;have FT:=ac9 7 _ rfl;refine Sm [.int .i64 dA.kind,.int .i64 dA.value,.slice aFh dA.data.length aFi,.int .i64 dA.closure.term.kind,.int .i64 dA.closure.term.value,.slice aFj dA.closure.term.data.length aFk,.slice ayJ dA.closure.term.kids.length ayK,.slice aog dA.closure.env.length c182] rfl (QC (cu (ac9 0 _ rfl)) (cu (ac9 1 _ rfl)) (cu (ac9 2 _ rfl)) (cu (ac9 3 _ rfl)) (cu (ac9 4 _ rfl)) (cu (ac9 5 _ rfl)) (cu (ac9 6 _ rfl)) (cu (ac9 7 _ rfl))) ?_;refine RL.alloc (z:=.agg #[.int .i64 0,.int .i64 0,.slice none 0 0,.int .i64 0,.int .i64 0,.slice none 0 0,.slice none 0 0,.slice none 0 0]) rfl (by kernel_rfl) (fun a7j aOF Yy a7k=>?_);replace aOF:dD a7j aCK.heap.size 77 #[.int .i64 0,.int .i64 0,.slice none 0 0,.int .i64 0,.int .i64 0,.slice none 0 0,.slice none 0 0,.slice none 0 0]:=aOF;have a_W:w.heap.size≤aCK.heap.size:=T.size;have ash:=Nat.ne_of_lt jf.lt;have asi:=Nat.ne_of_lt uY.lt;have asj:=Nat.ne_of_lt A_.lt;have al1:=aA.far fF (dB);have ajA:=aA.far mX (dB);have ajB:=Ap.far (aH.hi mY);have ajC:=aA.far mZ (dB);have xE:=Ap.far (aH.hi eH);have ajD:=Ap.far (aH.hi m_);have FT:=Below.ao0 Yy (aH.hi eH _ (aH.row eH rfl)) FT;have jf:=aX jf Yy;have uY:=aX uY Yy;have A_:=aX A_ Yy;have fF:=aA.below fF Yy;have mX:=aA.below mX Yy;have mY:=aH.below aC mY Yy;have mZ:=aA.below mZ Yy;have eH:=aH.below aQ eH Yy;have m_:=aH.below aS m_ Yy
   have T:=Tt T Yy;refine Ez (.int .i64 i164) ?_;refine RL.store (v:=.agg #[.int .i64 dA.kind,.int .i64 dA.value,.slice aFh dA.data.length aFi,.int .i64 dA.closure.term.kind,.int .i64 dA.closure.term.value,.slice aFj dA.closure.term.data.length aFk,.slice ayJ dA.closure.term.kids.length ayK,.slice aog dA.closure.env.length c182]) (cs':=#[.int .i64 dA.kind,.int .i64 dA.value,.slice aFh dA.data.length aFi,.int .i64 dA.closure.term.kind,.int .i64 dA.closure.term.value,.slice aFj dA.closure.term.data.length aFk,.slice ayJ dA.closure.term.kids.length ayK,.slice aog dA.closure.env.length c182]) rfl rfl rfl aOF (by kernel_rfl) (by rfl) (by rfl) (by rfl) (fun bd3 OZ VO=>?_);have a7l:=VO.size;have FT:=Only.aoZ VO (fun hq=>xE _ (aH.row eH rfl) hq) FT;have jf:=jf.bK VO (by intro hin; simp at hin; exact ash hin);have uY:=uY.bK VO (by intro hin; simp at hin; exact asi hin);have A_:=A_.bK VO (by intro hin; simp at hin; exact asj hin);have fF:=aA.only fF VO al1;have mX:=aA.only mX VO ajA;have mY:=aH.only aC mY VO (Ap.one ajB);have mZ:=aA.only mZ VO ajC;have eH:=aH.only aQ eH VO (Ap.one xE);have m_:=aH.only aS m_ VO (Ap.one ajD);have T:=T.trans (VO.below (by first|(simp; done)|(simp; omega)));refine RL.nil<|ah<|wp_seq<|wp_seq<|au rfl<|gy 0 rfl<|gZ (.int .i64 dA.kind) rfl (cu (aj OZ (i:=0) rfl))<|iq (.bool (dA.kind==1))<|dF (.bool (dA.kind==1)) ?_;rcases aB (dA.kind==1) with apk|apk
   ·replace hm:=cF apk hm;refine RQ.y (bT 78 apk) (Y.fieldAddr (off:=0) rfl (by kernel_rfl))<|RQ.y (bT 78 apk) (Y.load (v:=.int .i64 dA.kind) rfl (by kernel_rfl) (cu (aj OZ (i:=0) rfl)))<|RQ.y (bT 78 apk) (Y.dS (v:=.bool (dA.kind==2)) rfl rfl rfl)<|dN false (.bool (dA.kind==2)) (vb rfl apk)<|RQ.nil<|ah ?_;rcases aB (dA.kind==2) with aFl|aFl
    ·replace hm:=cF aFl hm;refine iH aFl<|wp_skip<|ah<|bF rfl<|kE ajz<|rC 3 rfl<|rC 4 rfl<|I7 (.slice aog dA.closure.env.length c182) rfl (cu (aj OZ (i:=7) rfl)) ?_;obtain ⟨aIk,a7m,hm⟩:=bnd hm;obtain ⟨bd4,aVm,aVn,VP,aVo,aVp⟩:=aH.aOC eH anb FT;refine RL.Jb rfl rfl (qZ rfl) (by kernel_rfl) ((agC a7m _ aVm aVn aVo uY fF (fun hq=>ng _ (VP _ hq) (by simp)) (Ap.sub (Ap.symm jM) VP)).mono ?_);rintro _ ayD ⟨rfl,aVq,VQ⟩;refine ⟨_,rfl,?_⟩;have aM4:=VQ.size;have jf:=jf.bK VQ (fun hq=>tu _ (VP _ hq) (by simp));have uY:=uY.bK VQ (fun hq=>ng _ (VP _ hq) (by simp));have A_:=A_.bK VQ (fun hq=>tC _ (VP _ hq) (by simp));have OZ:=OZ.bK VQ (fun hq=>xE _ (VP _ hq) (by simp));have fF:=aA.Bj fF VQ (Ap.sub (Ap.symm jM) VP);have mX:=aA.Bj mX VQ (Ap.sub (Ap.symm nG) VP);have mY:=aH.Bj aC mY VQ (Ap.sub (Ap.symm nH) VP);have mZ:=aA.Bj mZ VQ (Ap.sub (Ap.symm nI) VP);have m_:=aH.Bj aS m_ VQ (Ap.sub nJ VP);have T:=T.trans (VQ.below (fun q hq=>aH.jB eH q (VP q hq)));have aML:aH 77 dZ 8 ayD w.heap.size (.slice (some ⟨agw,0,none⟩) jX.stack.length ab2) (kX jX.stack i164 (⟨dA.kind,dA.value,dA.data,(⟨dA.closure.term,aIk⟩:ay)⟩:aO)) qU:=by rw [yc axa]; exact aVp ayD _ VQ aVq
     refine RL.nil ?_;refine eF (ah ?_);refine au rfl<|RQ.y rfl (Y.dS ana rfl (bn (m:=i164) (by omega)))<|dF (.int .i64 (i164+1))<|RQ.nil ?_;exact (ah ⟨g,_,Nat.lt_succ_self _,rfl,⟨(i164+1),(⟨(⟨(⟨jX.control.term.kind,jX.control.term.value,jX.control.term.data,jX.control.term.kids⟩:ak),jX.control.env⟩:ay),(kX jX.stack i164 (⟨dA.kind,dA.value,dA.data,(⟨dA.closure.term,aIk⟩:ay)⟩:aO)),jX.heap⟩:aN),(zU),(Nr),zV,(zW),(.slice (some ⟨agw,0,none⟩) jX.stack.length ab2),qU,(Ns),zX,aiE,NR,ahg,ajz,aw9,aw_,rfl,(by omega),A_,mX,mY,mZ,aML,m_,(Ap.dj (Dj.ap Fp)),(aJ (aP J8)),(aJ (aP J9)),(aJ (aP J_)),Ej,Fv,Ko,Kq,Kr,(Ap.dj (Dj.ap Em)),En,(Ap.dj (Dj.ap Fz)),(aJ (aP Kt)),(aJ (aP Ku)),(aJ (aP Kv)),nG,nH,nI,jM,tu,ng,tC,Eo,Ep,Es,nJ,FB,Kw,Ky,Kz,jf,uY,fF,T,(by rw [← Gw]; exact hm)⟩⟩)
    replace hm:=cT aFl hm;refine ig aFl ?_;refine az5 (fun w'=>Below w.heap.size w w'∧dD w' Jd.heap.size 25 #[.slice A95 EM.length c96]∧dD w' LK.heap.size 44 #[.int .i64 jX.control.term.kind,.int .i64 jX.control.term.value,zU,Nr,zW,.slice (some ⟨agw,0,none⟩) jX.stack.length ab2,Ns]∧dD w' aCK.heap.size 77 #[.int .i64 dA.kind,.int .i64 dA.value,.slice aFh dA.data.length aFi,.int .i64 dA.closure.term.kind,.int .i64 dA.closure.term.value,.slice aFj dA.closure.term.data.length aFk,.slice ayJ dA.closure.term.kids.length ayK,.slice aog dA.closure.env.length c182]∧aA 2 encI 1 w' w.heap.size (.slice A95 EM.length c96) EM) [(0,true),(1,true),(2,true),(3,true),(4,true),(5,true),(6,true),(7,true),(8,true),(9,true),(10,false)] (by kernel_rfl) (by kernel_rfl) (fun bd5 VR a7n=>?_);have FT:=Below.ao0 VR (aH.hi eH _ (aH.row eH rfl)) FT;have jf:=aX jf VR;have uY:=aX uY VR;have A_:=aX A_ VR;have OZ:=aX OZ VR;have fF:=aA.below fF VR;have mX:=aA.below mX VR;have mY:=aH.below aC mY VR;have mZ:=aA.below mZ VR;have eH:=aH.below aQ eH VR;have m_:=aH.below aS m_ VR;have T:=Tt T VR;refine ⟨⟨T,uY,A_,OZ,fF⟩,?_⟩;refine RG.y rfl rfl (Y.fieldAddr (off:=5) ahg (by kernel_rfl))<|RG.y rfl rfl (Y.load (v:=.slice (some ⟨agw,0,none⟩) jX.stack.length ab2) rfl (by kernel_rfl) (fun w' hS=>(aj hS.2.2.1 (i:=5) rfl)))<|RG.y rfl rfl (Y.move (v:=.int .i64 i164) rfl)<|RG.y rfl rfl (Y.load (v:=.slice A95 EM.length c96) NR (by kernel_rfl) (fun w' hS=>(aj hS.2.1 (i:=0) rfl)))<|RG.y rfl rfl (Y.fieldAddr (off:=1) rfl (by kernel_rfl))<|RG.y rfl rfl (Y.load (v:=.int .i64 dA.value) rfl (by kernel_rfl) (fun w' hS=>(aj hS.2.2.2.1 (i:=1) rfl))) ?_;obtain ⟨Rw,aFm,hm⟩:=bnd hm;obtain ⟨a7o,aVr,aVs,aFm⟩:=aU aFm;obtain ⟨bd6,rfl⟩:=aA.GU fF (by omega);refine RG.y rfl rfl (Y.indexAddr (m:=a7o) (sz:=1) rfl rfl aVr aVs (by kernel_rfl))<|RG.y rfl rfl (Y.load (v:=.int .i64 Rw) rfl (by kernel_rfl) (fun w' hS=>(aA.cell fI hS.2.2.2.2 aFm (j:=0) rfl))) ?_;obtain ⟨a6L,axb,hm⟩:=bnd hm;obtain ⟨aVt,aFo,aKb,axb⟩:=aU axb;refine RG.y rfl rfl (Y.indexAddr (m:=aVt) (sz:=8) rfl rfl aFo aKb (by kernel_rfl))<|RG.y rfl rfl (Y.fieldAddr (off:=1) rfl (by kernel_rfl))<|RG.act rfl ?_;obtain rfl:ave=aVt:=by omega
    obtain rfl:=Option.some.inj (anb.symm.trans axb);refine RL.aw7 (k:=ave) (j:=1) (a:=dA) (a':=(⟨dA.kind,Rw,dA.data,dA.closure⟩:aO)) aQ rfl rfl rfl eH axb (by decide) (fun ⟨A0,n0,c0,A1,n1,c1,A2,n2,c2,A3,n3,c3,b0,b1,b2,b3,e,h⟩=>⟨A0,n0,c0,A1,n1,c1,A2,n2,c2,A3,n3,c3,b0,b1,b2,b3,by rw [e]; rfl,h⟩) rfl rfl (by kernel_rfl) (fun a7p aIv Yz aOG=>?_);have FT:=(aOG _ (by omega)).trans FT;have a7q:=Yz.size;have jf:=dD.bK jf Yz (by intro hin; have hne:=aH.ML eH tu; simp at hin; exact hne (by rw [hin]; rfl));have uY:=dD.bK uY Yz (by intro hin; have hne:=aH.ML eH ng; simp at hin; exact hne (by rw [hin]; rfl));have A_:=dD.bK A_ Yz (by intro hin; have hne:=aH.ML eH tC; simp at hin; exact hne (by rw [hin]; rfl));have OZ:=dD.bK OZ Yz (by intro hin; have hne:=aH.ML eH xE; simp at hin; exact hne (by rw [hin]; rfl));have fF:=aA.only fF Yz (fun e=>(aH.dj eH jM) _ e rfl);have mX:=aA.only mX Yz (fun e=>(aH.dj eH nG) _ e rfl);have mY:=aH.only aC mY Yz (fun hin=>(Ap.symm nH) _ hin (aH.row eH rfl));have mZ:=aA.only mZ Yz (fun e=>(aH.dj eH nI) _ e rfl);have m_:=aH.only aS m_ Yz (fun hin=>nJ _ hin (aH.row eH rfl));have T:=T.trans (Yz.below (by intro b hb; simp at hb; subst hb; exact aH.jB eH _ (aH.row eH rfl)));have aIv:aH 77 dZ 8 a7p w.heap.size (.slice (some ⟨agw,0,none⟩) jX.stack.length ab2) (kX jX.stack i164 (⟨dA.kind,Rw,dA.data,dA.closure⟩:aO)) qU:=by rw [yc aFo]; exact aIv
    have aVu:(kX jX.stack i164 (⟨dA.kind,Rw,dA.data,dA.closure⟩:aO))[ave]? = some (⟨dA.kind,Rw,dA.data,dA.closure⟩:aO):=Ub aFo aKb;refine RL.nil ⟨⟨T,uY,A_,OZ,fF⟩,?_⟩;refine RG.nil<|ah<|bF rfl<|kE ajz<|rC 3 rfl<|rC 4 rfl<|I7 (.slice aog dA.closure.env.length c182) rfl (cu (aj OZ (i:=7) rfl)) ?_;obtain ⟨aIj,e226,hm⟩:=bnd hm;obtain ⟨bd7,aVv,aVw,VT,aVx,aVy⟩:=aH.aOC aIv aVu FT;refine RL.Jb rfl rfl (qZ rfl) (by kernel_rfl) ((agC e226 _ aVv aVw aVx uY fF (fun hq=>ng _ (VT _ hq) (by simp)) (Ap.sub (Ap.symm jM) VT)).mono ?_);rintro _ aOo ⟨rfl,aVz,VU⟩;refine ⟨_,rfl,?_⟩;have aOp:=VU.size;have jf:=jf.bK VU (fun hq=>tu _ (VT _ hq) (by simp));have uY:=uY.bK VU (fun hq=>ng _ (VT _ hq) (by simp));have A_:=A_.bK VU (fun hq=>tC _ (VT _ hq) (by simp));have OZ:=OZ.bK VU (fun hq=>xE _ (VT _ hq) (by simp));have fF:=aA.Bj fF VU (Ap.sub (Ap.symm jM) VT);have mX:=aA.Bj mX VU (Ap.sub (Ap.symm nG) VT);have mY:=aH.Bj aC mY VU (Ap.sub (Ap.symm nH) VT);have mZ:=aA.Bj mZ VU (Ap.sub (Ap.symm nI) VT);have m_:=aH.Bj aS m_ VU (Ap.sub nJ VT);have T:=T.trans (VU.below (fun q hq=>aH.jB aIv q (VT q hq)));have a7r:aH 77 dZ 8 aOo w.heap.size (.slice (some ⟨agw,0,none⟩) jX.stack.length ab2) (kX (kX jX.stack i164 (⟨dA.kind,Rw,dA.data,dA.closure⟩:aO)) i164 (⟨(⟨dA.kind,Rw,dA.data,dA.closure⟩:aO).kind,(⟨dA.kind,Rw,dA.data,dA.closure⟩:aO).value,(⟨dA.kind,Rw,dA.data,dA.closure⟩:aO).data,(⟨((⟨dA.kind,Rw,dA.data,dA.closure⟩:aO).closure).term,aIj⟩:ay)⟩:aO)) qU:=by rw [yc axa]; exact aVy aOo _ VU aVz
    refine RL.nil ?_;refine eF (ah ?_);refine au rfl<|RQ.y rfl (Y.dS ana rfl (bn (m:=i164) (by omega)))<|dF (.int .i64 (i164+1))<|RQ.nil ?_;exact (ah ⟨g,_,Nat.lt_succ_self _,rfl,⟨(i164+1),(⟨(⟨(⟨jX.control.term.kind,jX.control.term.value,jX.control.term.data,jX.control.term.kids⟩:ak),jX.control.env⟩:ay),(kX (kX jX.stack i164 (⟨dA.kind,Rw,dA.data,dA.closure⟩:aO)) i164 (⟨(⟨dA.kind,Rw,dA.data,dA.closure⟩:aO).kind,(⟨dA.kind,Rw,dA.data,dA.closure⟩:aO).value,(⟨dA.kind,Rw,dA.data,dA.closure⟩:aO).data,(⟨((⟨dA.kind,Rw,dA.data,dA.closure⟩:aO).closure).term,aIj⟩:ay)⟩:aO)),jX.heap⟩:aN),(zU),(Nr),zV,(zW),(.slice (some ⟨agw,0,none⟩) jX.stack.length ab2),qU,(Ns),zX,aiE,NR,ahg,ajz,aw9,aw_,rfl,(by omega),A_,mX,mY,mZ,a7r,m_,(Ap.dj (Dj.ap Fp)),(aJ (aP J8)),(aJ (aP J9)),(aJ (aP J_)),Ej,Fv,Ko,Kq,Kr,(Ap.dj (Dj.ap Em)),En,(Ap.dj (Dj.ap Fz)),(aJ (aP Kt)),(aJ (aP Ku)),(aJ (aP Kv)),nG,nH,nI,jM,tu,ng,tC,Eo,Ep,Es,nJ,FB,Kw,Ky,Kz,jf,uY,fF,T,(by rw [← Gw]; exact hm)⟩⟩)
   replace hm:=cT apk hm;iterate 3 refine RQ.skip (oL 78 apk) ?_
   refine dN true (.bool true) (vb rfl apk)<|RQ.nil<|ah<|dX rfl rfl ?_;refine az5 (fun w'=>Below w.heap.size w w'∧dD w' Jd.heap.size 25 #[.slice A95 EM.length c96]∧dD w' LK.heap.size 44 #[.int .i64 jX.control.term.kind,.int .i64 jX.control.term.value,zU,Nr,zW,.slice (some ⟨agw,0,none⟩) jX.stack.length ab2,Ns]∧dD w' aCK.heap.size 77 #[.int .i64 dA.kind,.int .i64 dA.value,.slice aFh dA.data.length aFi,.int .i64 dA.closure.term.kind,.int .i64 dA.closure.term.value,.slice aFj dA.closure.term.data.length aFk,.slice ayJ dA.closure.term.kids.length ayK,.slice aog dA.closure.env.length c182]∧aA 2 encI 1 w' w.heap.size (.slice A95 EM.length c96) EM) [(0,true),(1,true),(2,true),(3,true),(4,true),(5,true),(6,true),(7,true),(8,true),(9,true),(10,false)] (by kernel_rfl) (by kernel_rfl) (fun bd8 VW a7s=>?_);have FT:=Below.ao0 VW (aH.hi eH _ (aH.row eH rfl)) FT;have jf:=aX jf VW;have uY:=aX uY VW;have A_:=aX A_ VW;have OZ:=aX OZ VW;have fF:=aA.below fF VW;have mX:=aA.below mX VW;have mY:=aH.below aC mY VW;have mZ:=aA.below mZ VW;have eH:=aH.below aQ eH VW;have m_:=aH.below aS m_ VW;have T:=Tt T VW;refine ⟨⟨T,uY,A_,OZ,fF⟩,?_⟩;refine RG.y rfl rfl (Y.fieldAddr (off:=5) ahg (by kernel_rfl))<|RG.y rfl rfl (Y.load (v:=.slice (some ⟨agw,0,none⟩) jX.stack.length ab2) rfl (by kernel_rfl) (fun w' hS=>(aj hS.2.2.1 (i:=5) rfl)))<|RG.y rfl rfl (Y.move (v:=.int .i64 i164) rfl)<|RG.y rfl rfl (Y.load (v:=.slice A95 EM.length c96) NR (by kernel_rfl) (fun w' hS=>(aj hS.2.1 (i:=0) rfl)))<|RG.y rfl rfl (Y.fieldAddr (off:=1) rfl (by kernel_rfl))<|RG.y rfl rfl (Y.load (v:=.int .i64 dA.value) rfl (by kernel_rfl) (fun w' hS=>(aj hS.2.2.2.1 (i:=1) rfl))) ?_;obtain ⟨Ru,aFp,hm⟩:=bnd hm;obtain ⟨a7t,aVA,aVB,aFp⟩:=aU aFp;obtain ⟨bd9,rfl⟩:=aA.GU fF (by omega);refine RG.y rfl rfl (Y.indexAddr (m:=a7t) (sz:=1) rfl rfl aVA aVB (by kernel_rfl))<|RG.y rfl rfl (Y.load (v:=.int .i64 Ru) rfl (by kernel_rfl) (fun w' hS=>(aA.cell fI hS.2.2.2.2 aFp (j:=0) rfl))) ?_;obtain ⟨a6K,axc,hm⟩:=bnd hm;obtain ⟨aVC,aFq,aKc,axc⟩:=aU axc;refine RG.y rfl rfl (Y.indexAddr (m:=aVC) (sz:=8) rfl rfl aFq aKc (by kernel_rfl))<|RG.y rfl rfl (Y.fieldAddr (off:=1) rfl (by kernel_rfl))<|RG.act rfl ?_
   obtain rfl:ave=aVC:=by omega
   obtain rfl:=Option.some.inj (anb.symm.trans axc);refine RL.aw7 (k:=ave) (j:=1) (a:=dA) (a':=(⟨dA.kind,Ru,dA.data,dA.closure⟩:aO)) aQ rfl rfl rfl eH axc (by decide) (fun ⟨A0,n0,c0,A1,n1,c1,A2,n2,c2,A3,n3,c3,b0,b1,b2,b3,e,h⟩=>⟨A0,n0,c0,A1,n1,c1,A2,n2,c2,A3,n3,c3,b0,b1,b2,b3,by rw [e]; rfl,h⟩) rfl rfl (by kernel_rfl) (fun a7u aIw YA aOH=>?_);have FT:=(aOH _ (by omega)).trans FT;have a7v:=YA.size;have jf:=dD.bK jf YA (by intro hin; have hne:=aH.ML eH tu; simp at hin; exact hne (by rw [hin]; rfl));have uY:=dD.bK uY YA (by intro hin; have hne:=aH.ML eH ng; simp at hin; exact hne (by rw [hin]; rfl));have A_:=dD.bK A_ YA (by intro hin; have hne:=aH.ML eH tC; simp at hin; exact hne (by rw [hin]; rfl));have OZ:=dD.bK OZ YA (by intro hin; have hne:=aH.ML eH xE; simp at hin; exact hne (by rw [hin]; rfl));have fF:=aA.only fF YA (fun e=>(aH.dj eH jM) _ e rfl);have mX:=aA.only mX YA (fun e=>(aH.dj eH nG) _ e rfl);have mY:=aH.only aC mY YA (fun hin=>(Ap.symm nH) _ hin (aH.row eH rfl));have mZ:=aA.only mZ YA (fun e=>(aH.dj eH nI) _ e rfl);have m_:=aH.only aS m_ YA (fun hin=>nJ _ hin (aH.row eH rfl));have T:=T.trans (YA.below (by intro b hb; simp at hb; subst hb; exact aH.jB eH _ (aH.row eH rfl)));have aIw:aH 77 dZ 8 a7u w.heap.size (.slice (some ⟨agw,0,none⟩) jX.stack.length ab2) (kX jX.stack i164 (⟨dA.kind,Ru,dA.data,dA.closure⟩:aO)) qU:=by rw [yc aFq]; exact aIw
   have aVD:(kX jX.stack i164 (⟨dA.kind,Ru,dA.data,dA.closure⟩:aO))[ave]? = some (⟨dA.kind,Ru,dA.data,dA.closure⟩:aO):=Ub aFq aKc;refine RL.nil ⟨⟨T,uY,A_,OZ,fF⟩,?_⟩;refine RG.nil<|ah<|bF rfl<|kE ajz<|rC 3 rfl<|rC 4 rfl<|I7 (.slice aog dA.closure.env.length c182) rfl (cu (aj OZ (i:=7) rfl)) ?_;obtain ⟨aIi,a7w,hm⟩:=bnd hm;obtain ⟨bea,aVE,aVF,VX,aVG,aVH⟩:=aH.aOC aIw aVD FT;refine RL.Jb rfl rfl (qZ rfl) (by kernel_rfl) ((agC a7w _ aVE aVF aVG uY fF (fun hq=>ng _ (VX _ hq) (by simp)) (Ap.sub (Ap.symm jM) VX)).mono ?_);rintro _ aVI ⟨rfl,aVJ,VY⟩;refine ⟨_,rfl,?_⟩;have a7x:=VY.size;have jf:=jf.bK VY (fun hq=>tu _ (VX _ hq) (by simp));have uY:=uY.bK VY (fun hq=>ng _ (VX _ hq) (by simp));have A_:=A_.bK VY (fun hq=>tC _ (VX _ hq) (by simp));have OZ:=OZ.bK VY (fun hq=>xE _ (VX _ hq) (by simp));have fF:=aA.Bj fF VY (Ap.sub (Ap.symm jM) VX);have mX:=aA.Bj mX VY (Ap.sub (Ap.symm nG) VX);have mY:=aH.Bj aC mY VY (Ap.sub (Ap.symm nH) VX);have mZ:=aA.Bj mZ VY (Ap.sub (Ap.symm nI) VX);have m_:=aH.Bj aS m_ VY (Ap.sub nJ VX);have T:=T.trans (VY.below (fun q hq=>aH.jB aIw q (VX q hq)));have aDW:aH 77 dZ 8 aVI w.heap.size (.slice (some ⟨agw,0,none⟩) jX.stack.length ab2) (kX (kX jX.stack i164 (⟨dA.kind,Ru,dA.data,dA.closure⟩:aO)) i164 (⟨(⟨dA.kind,Ru,dA.data,dA.closure⟩:aO).kind,(⟨dA.kind,Ru,dA.data,dA.closure⟩:aO).value,(⟨dA.kind,Ru,dA.data,dA.closure⟩:aO).data,(⟨((⟨dA.kind,Ru,dA.data,dA.closure⟩:aO).closure).term,aIi⟩:ay)⟩:aO)) qU:=by rw [yc axa]; exact aVH aVI _ VY aVJ
   refine RL.nil ?_;refine eF (ah ?_);refine au rfl<|RQ.y rfl (Y.dS ana rfl (bn (m:=i164) (by omega)))<|dF (.int .i64 (i164+1))<|RQ.nil ?_;exact (ah ⟨g,_,Nat.lt_succ_self _,rfl,⟨(i164+1),(⟨(⟨(⟨jX.control.term.kind,jX.control.term.value,jX.control.term.data,jX.control.term.kids⟩:ak),jX.control.env⟩:ay),(kX (kX jX.stack i164 (⟨dA.kind,Ru,dA.data,dA.closure⟩:aO)) i164 (⟨(⟨dA.kind,Ru,dA.data,dA.closure⟩:aO).kind,(⟨dA.kind,Ru,dA.data,dA.closure⟩:aO).value,(⟨dA.kind,Ru,dA.data,dA.closure⟩:aO).data,(⟨((⟨dA.kind,Ru,dA.data,dA.closure⟩:aO).closure).term,aIi⟩:ay)⟩:aO)),jX.heap⟩:aN),(zU),(Nr),zV,(zW),(.slice (some ⟨agw,0,none⟩) jX.stack.length ab2),qU,(Ns),zX,aiE,NR,ahg,ajz,aw9,aw_,rfl,(by omega),A_,mX,mY,mZ,aDW,m_,(Ap.dj (Dj.ap Fp)),(aJ (aP J8)),(aJ (aP J9)),(aJ (aP J_)),Ej,Fv,Ko,Kq,Kr,(Ap.dj (Dj.ap Em)),En,(Ap.dj (Dj.ap Fz)),(aJ (aP Kt)),(aJ (aP Ku)),(aJ (aP Kv)),nG,nH,nI,jM,tu,ng,tC,Eo,Ep,Es,nJ,FB,Kw,Ky,Kz,jf,uY,fF,T,(by rw [← Gw]; exact hm)⟩⟩)
  rintro g f a3r ⟨FQ,Rt,iC,Ak,iD,yw,fG,iE,yx,fH,Dn,fZ,jE,Dt,I8,D6,aFr,aFs,asl,a7y,ES,O0,gI,bW,bY,bZ,b_,bH,Vl,KA,KC,KD,ET,Et,ac_,Rz,RD,RF,KE,Eu,pR,ada,RH,RI,RJ,KF,Ew,pU,pV,adb,RN,RP,RS,KG,Ey,pW,pX,pY,ade,RU,RV,RY,KH,Ba,jT,jU,jV,jW,Vm,KI,KJ,KL,KN,gY,jf,Lm,T,hm⟩;rcases g with _|g
  ·simp only [iT] at hm; cases hm
  obtain ⟨eU,d_,hm⟩ :∃z,z=iT d1 CQ K1 g∧rX d1 CQ z K1 FQ Rt iC=some r:=⟨_,rfl,hm⟩;unfold rX at hm;refine wp_seq<|au rfl<|uZ (.bool (decide (FQ < (CQ.length:Int)))) asl aFs rfl<|RQ.nil<|ah<|wp_seq ?_;rcases aB (decide (FQ < (CQ.length:Int))) with avf|avf
  ·replace hm:=cF avf hm;have aVK:=of_decide_eq_false avf;refine iH avf<|wp_exit ?_;exact (bQ (bQ (iW ⟨_,rfl,⟨Rt,iC,(Ak),(iD),(yw),fG,(iE),(yx),fH,(Dn),fZ,Dt,I8,D6,ES,O0,gI,bW,bY,bZ,b_,bH,(aJ (aP KA)),(aJ (aP KC)),(aJ (aP KD)),(aJ (aP ET)),(Ap.dj (Dj.ap Et)),(aJ (aP Rz)),(aJ (aP RD)),(aJ (aP RF)),(aJ (aP KE)),Eu,pR,RH,RI,RJ,KF,(Ap.dj (Dj.ap Ew)),(Ap.dj (Dj.ap pU)),pV,(aJ (aP RN)),(aJ (aP RP)),(aJ (aP RS)),(aJ (aP KG)),Ey,pW,pX,pY,RU,RV,RY,KH,Ba,jT,jU,jV,jW,KI,KJ,KL,KN,gY,jf,T,(by rw [hK1] at hm; exact hm)⟩⟩)))
  replace hm:=cT avf hm;have aVK:=of_decide_eq_true avf;refine ig avf<|wp_skip<|ah<|wp_seq<|wp_block<|wp_seq<|au rfl<|aT asl ?_;obtain ⟨azz,aFt,hm⟩:=bnd hm;obtain ⟨a7z,aVL,aVM,aFt⟩:=aU aFt;obtain ⟨a7A,rfl⟩:=aA.GU Lm (by omega);refine RQ.y rfl (Y.indexAddr (m:=a7z) (sz:=1) aFr asl aVL aVM (by kernel_rfl))<|gZ (.bool azz) rfl (cu (aA.cell fB Lm aFt (j:=0) rfl))<|aW (.int .i64 FQ)<|aW (.bool azz)<|RQ.nil<|ah<|wp_seq<|au rfl<|dF (.bool azz)<|RQ.nil<|ah ?_;rcases aB azz with aFu|aFu
  ·replace hm:=cF aFu hm;refine iH aFu<|wp_skip ?_;refine eF (ah ?_);refine au rfl<|RQ.y rfl (Y.dS asl rfl (bn (m:=FQ) (by omega)))<|dF (.int .i64 (FQ+1))<|RQ.nil ?_;exact (ah ⟨g,_,Nat.lt_succ_self _,rfl,⟨(FQ+1),Rt,iC,(Ak),(iD),(yw),fG,(iE),(yx),fH,(Dn),fZ,jE,Dt,I8,D6,aFr,aFs,rfl,(by omega),ES,O0,gI,bW,bY,bZ,b_,bH,(Ap.dj (Dj.ap Vl)),(aJ (aP KA)),(aJ (aP KC)),(aJ (aP KD)),(aJ (aP ET)),(Ap.dj (Dj.ap Et)),(Ap.dj (Dj.ap ac_)),(aJ (aP Rz)),(aJ (aP RD)),(aJ (aP RF)),(aJ (aP KE)),Eu,pR,ada,RH,RI,RJ,KF,(Ap.dj (Dj.ap Ew)),(Ap.dj (Dj.ap pU)),pV,(Ap.dj (Dj.ap adb)),(aJ (aP RN)),(aJ (aP RP)),(aJ (aP RS)),(aJ (aP KG)),Ey,pW,pX,pY,ade,RU,RV,RY,KH,Ba,jT,jU,jV,jW,Vm,KI,KJ,KL,KN,gY,jf,Lm,T,(by rw [← d_]; exact hm)⟩⟩)
  replace hm:=cT aFu hm;refine ig aFu<|wp_seq<|bF rfl<|I7 Ak I8 (cu (aj ES (i:=0) rfl))<|aLm (.int .i64 FQ)<|rC 6 D6<|I7 Dn rfl (cu (aj gI (i:=6) rfl)) ?_;obtain ⟨aVN,arz,rfl⟩:=aH.form bH;have a7B:=aH.bound bH;refine aLz rfl ?_;obtain ⟨beb,aOI,rfl⟩:=aA.form O0;have a7C:=aA.bound O0;obtain ⟨Ja,aKd,hm⟩:=bnd hm;obtain ⟨aDZ,aFv,aFw,aKd⟩:=aU aKd;obtain ⟨azQ,rfl⟩:=aA.GU O0 (by omega);refine RL.y rfl (Y.indexAddr (m:=aDZ) (sz:=1) rfl rfl aFv aFw (by kernel_rfl)) ?_;refine RL.ano (k:=aDZ) (a:=(iC.heap.length:Int)) fI rfl rfl rfl O0 aFw rfl (by kernel_rfl) (fun a7D WB VZ=>?_);have a7E:=VZ.size;have gY:=dD.bK gY VZ (fun e=>KA (by simp at e; rw [e]; rfl));have jf:=dD.bK jf VZ (fun e=>KC (by simp at e; rw [e]; rfl));have ES:=dD.bK ES VZ (fun e=>KD (by simp at e; rw [e]; rfl));have gI:=dD.bK gI VZ (fun e=>ET (by simp at e; rw [e]; rfl));have Lm:=aA.only Lm VZ (fun e=>(Dj.symm Vl) _ e rfl);have bW:=aA.only bW VZ (fun e=>Et _ e rfl);have bY:=aH.only aC bY VZ ((show Ap fG [azQ] from Eu).one);have bZ:=aA.only bZ VZ (fun e=>Ew _ e rfl);have b_:=aH.only aQ b_ VZ ((show Ap fH [azQ] from Ey).one);have bH:=aH.only aS bH VZ ((show Ap fZ [azQ] from Ba).one);have T:=T.trans (VZ.below (by intro b hb; simp at hb; subst hb; exact aA.jB O0 _ rfl));have WB:aA 2 encI 1 a7D w.heap.size (.slice (some ⟨azQ,0,none⟩) Rt.length aOI) (kX Rt FQ (iC.heap.length:Int)):=by rw [yc aFv]; exact WB
  have aVO:(kX Rt FQ (iC.heap.length:Int))[aDZ]? = some (iC.heap.length:Int):=Ub aFv aFw;have a_X:=lt_of_some aVO;refine RL.nil<|ah ?_;refine Ux (fun w'=>dD w' LK.heap.size 44 #[.int .i64 iC.control.term.kind,.int .i64 iC.control.term.value,iD,yw,iE,yx,.slice aVN iC.heap.length arz]) (fun w'=>Below w.heap.size w w'∧dD w' w7.heap.size 44 #[.int .i64 d1.control.term.kind,.int .i64 d1.control.term.value,.slice A2 d1.control.term.data.length c2,.slice A3 d1.control.term.kids.length c3,.slice A4 d1.control.env.length c4,.slice A5 d1.stack.length c5,.slice A6 d1.heap.length c6]) 19 (.q 0 (.e 1 (.q 2 (.q 3 (.q 4 (.q 5 (.q 6 (.q 7 (.q 8 (.q 9 (.q 10 (.q 11 (.q 12 (.q 13 (.a 14 (.q 15 (.a 16 (.a 17 (.q 18 (.a 19 .nil)))))))))))))))))))) (by kernel_rfl) (by kernel_rfl) (fun bec V3 a7F=>?_);have gY:=aX gY V3;have jf:=aX jf V3;have ES:=aX ES V3;have gI:=aX gI V3;have Lm:=aA.below Lm V3;have WB:=aA.below WB V3;have bW:=aA.below bW V3;have bY:=aH.below aC bY V3;have bZ:=aA.below bZ V3;have b_:=aH.below aQ b_ V3;have bH:=aH.below aS bH V3;have T:=Tt T V3;refine ⟨⟨gI,⟨T,gY⟩⟩,?_⟩;refine RX.y rfl rfl (Y.fieldAddr (off:=6) D6 (by kernel_rfl))<|RX.e rfl rfl (Y.load (v:=.slice aVN iC.heap.length arz) rfl (by kernel_rfl) (fun w' hS=>(aj hS.1 (i:=6) rfl)))<|RX.y rfl rfl (Y.fieldAddr (off:=6) jE (by kernel_rfl))<|RX.y rfl rfl (Y.load (v:=.slice A6 d1.heap.length c6) rfl (by kernel_rfl) (fun w' hS=>(aj hS.2 (i:=6) rfl)))<|RX.y rfl rfl (Y.move (v:=.int .i64 FQ) rfl) ?_;obtain ⟨aje,aFx,hm⟩:=bnd hm;obtain ⟨a7G,aVP,aVQ,aFx⟩:=aU aFx;obtain ⟨a7H,a7I,rfl,a7J⟩:=h6.addr (by omega);obtain ⟨a_Y,axd,aVR⟩:=h6.el aFx;have aWP:=axd;obtain ⟨bed,n304,bee,bef,n305,beg,beh,n306,bei,rfl,⟨a7K,a7L⟩,⟨a7M,a7N⟩,⟨a7O,a7P⟩⟩:=axd;obtain ⟨rfl,bej⟩:=bI a7K a7L;obtain ⟨rfl,bek⟩:=bI a7M a7N;obtain ⟨rfl,bem⟩:=bI a7O a7P;refine RX.y rfl rfl (Y.indexAddr (m:=a7G) (sz:=6) rfl rfl aVP aVQ (by kernel_rfl))<|RX.y rfl rfl (Y.fieldAddr (off:=0) rfl (by kernel_rfl))<|RX.y rfl rfl (Y.load (v:=.bool aje.done) rfl (by kernel_rfl) (fun w' hS=>(cellT hS.1 (aVR 0 _ rfl))))<|RX.y rfl rfl (Y.fieldAddr (off:=6) jE (by kernel_rfl))<|RX.y rfl rfl (Y.load (v:=.slice (some ⟨a7H,a7I,none⟩) d1.heap.length c6) rfl (by kernel_rfl) (fun w' hS=>(aj hS.2 (i:=6) rfl)))<|RX.y rfl rfl (Y.move (v:=.int .i64 FQ) rfl) ?_
  obtain ⟨asb,aFy,hm⟩:=bnd hm;obtain ⟨a7Q,aVS,aVT,aFy⟩:=aU aFy;obtain ⟨a_Z,axe,asn⟩:=h6.el aFy;have aWQ:=axe;obtain ⟨a7R,n314,a7S,a7T,n315,a7U,a7V,n316,a7W,rfl,⟨aVU,aVV⟩,⟨aVW,aVX⟩,⟨aVY,aVZ⟩⟩:=axe;obtain ⟨rfl,ben⟩:=bI aVU aVV;obtain ⟨rfl,beo⟩:=bI aVW aVX;obtain ⟨rfl,bep⟩:=bI aVY aVZ;refine RX.y rfl rfl (Y.indexAddr (m:=a7Q) (sz:=6) rfl rfl aVS aVT (by kernel_rfl))<|RX.y rfl rfl (Y.fieldAddr (off:=1) rfl (by kernel_rfl))<|RX.y rfl rfl (Y.wH (cs:=[.int .i64 asb.closure.term.kind,.int .i64 asb.closure.term.value,.slice a7R asb.closure.term.data.length a7S,.slice a7T asb.closure.term.kids.length a7U,.slice a7V asb.closure.env.length a7W]) rfl (by kernel_rfl) (cells5 (fun w' hS=>(cellT hS.1 (asn 1 _ rfl))) (fun w' hS=>(cellT hS.1 (asn 2 _ rfl))) (fun w' hS=>(cellT hS.1 (asn 3 _ rfl))) (fun w' hS=>(cellT hS.1 (asn 4 _ rfl))) (fun w' hS=>(cellT hS.1 (asn 5 _ rfl)))))<|RX.act rfl rfl ?_;obtain ⟨wG,e318,hm⟩:=bnd hm;refine RL.call rfl (qZ rfl) (by kernel_rfl) ((zS asb.closure _ e318 _ _ (fE (R:=dM) ⟨_,_,_,_,_,_,_,_,_,rfl,⟨aY.now aG aVU (dB) T,aVV⟩,⟨aY.now aK aVW (dB) T,aVX⟩,⟨aY.now aG aVY (dB) T,aVZ⟩⟩)).mono ?_);rintro _ aOJ ⟨⟨aOK,ber,V4,aOL,rfl,Vo,Vp,Vq,avg,avh,avi⟩,TS⟩;refine ⟨_,rfl,?_⟩;have a7X:=TS.size;have avj:=T.size;have avk:=aJ (Ap.new (aA.dU Vo) (aI gY.lt));have avl:=aJ (Ap.new (aA.dU Vo) (aI jf.lt));have avm:=aJ (Ap.new (aA.dU Vo) (aI ES.lt));have avn:=aJ (Ap.new (aA.dU Vo) (aI gI.lt));have azR:=Ap.dj (Ap.new (aA.dU Vo) (aA.je Lm));have al2:=Ap.dj (Ap.new (aA.dU Vo) (aA.je WB));have al3:=Ap.dj (Ap.new (aA.dU Vo) (aA.je bW));have al4:Ap (fb aOK) fG:=(Ap.new (aA.dU Vo) (aH.hi bY));have al5:=Ap.dj (Ap.new (aA.dU Vo) (aA.je bZ));have al6:Ap (fb aOK) fH:=(Ap.new (aA.dU Vo) (aH.hi b_));have al7:Ap (fb aOK) fZ:=(Ap.new (aA.dU Vo) (aH.hi bH));have avo:Ap V4 [w7.heap.size]:=(Ap.new (aH.jB Vp) (aI gY.lt));have avp:Ap V4 [uS.heap.size]:=(Ap.new (aH.jB Vp) (aI jf.lt));have avq:Ap V4 [Jd.heap.size]:=(Ap.new (aH.jB Vp) (aI ES.lt));have avr:Ap V4 [LK.heap.size]:=(Ap.new (aH.jB Vp) (aI gI.lt))
  have azS:Ap V4 (fb (.slice (some ⟨a7A,0,none⟩) CQ.length c91)):=(Ap.new (aH.jB Vp) (aA.je Lm));have al8:Ap V4 (fb (.slice (some ⟨azQ,0,none⟩) Rt.length aOI)):=(Ap.new (aH.jB Vp) (aA.je WB));have al9:Ap V4 (fb iD):=(Ap.new (aH.jB Vp) (aA.je bW));have al_:Ap V4 fG:=(Ap.new (aH.jB Vp) (aH.hi bY));have ama:Ap V4 (fb iE):=(Ap.new (aH.jB Vp) (aA.je bZ));have amb:Ap V4 fH:=(Ap.new (aH.jB Vp) (aH.hi b_));have amc:Ap V4 fZ:=(Ap.new (aH.jB Vp) (aH.hi bH));have avs:=aJ (Ap.new (aA.dU Vq) (aI gY.lt));have avt:=aJ (Ap.new (aA.dU Vq) (aI jf.lt));have avu:=aJ (Ap.new (aA.dU Vq) (aI ES.lt));have avv:=aJ (Ap.new (aA.dU Vq) (aI gI.lt));have azT:=Ap.dj (Ap.new (aA.dU Vq) (aA.je Lm));have amd:=Ap.dj (Ap.new (aA.dU Vq) (aA.je WB));have ame:=Ap.dj (Ap.new (aA.dU Vq) (aA.je bW));have amf:Ap (fb aOL) fG:=(Ap.new (aA.dU Vq) (aH.hi bY));have amg:=Ap.dj (Ap.new (aA.dU Vq) (aA.je bZ));have amh:Ap (fb aOL) fH:=(Ap.new (aA.dU Vq) (aH.hi b_));have ami:Ap (fb aOL) fZ:=(Ap.new (aA.dU Vq) (aH.hi bH));have gY:=aX gY TS;have jf:=aX jf TS;have ES:=aX ES TS;have gI:=aX gI TS;have Lm:=aA.below Lm TS;have WB:=aA.below WB TS;have bW:=aA.below bW TS;have bY:=aH.below aC bY TS;have bZ:=aA.below bZ TS;have b_:=aH.below aQ b_ TS;have bH:=aH.below aS bH TS;have T:=Tt T TS;replace Vo:=aA.mono Vo avj;replace Vp:=aH.mono Vp avj;replace Vq:=aA.mono Vq avj;refine RL.nil ⟨⟨gI,⟨T,gY⟩⟩,?_⟩;obtain ⟨aOM,aON,rfl⟩:=aA.form Vo;have a7Y:=aA.bound Vo;obtain ⟨aV1,aV2,rfl⟩:=aH.form Vp;have a7Z:=aH.bound Vp;obtain ⟨aOO,aOP,rfl⟩:=aA.form Vq;have a7_:=aA.bound Vq;refine RX.y rfl rfl (Y.adL (cells:=#[.bool aje.done,.int .i64 wG.term.kind,.int .i64 wG.term.value,.slice aOM wG.term.data.length aON,.slice aV1 wG.term.kids.length aV2,.slice aOO wG.env.length aOP]) rfl rfl (by kernel_rfl) (by kernel_rfl))<|RX.act rfl rfl ?_;refine RL.yD (e:=73) (cells:=#[.bool aje.done,.int .i64 wG.term.kind,.int .i64 wG.term.value,.slice aOM wG.term.data.length aON,.slice aV1 wG.term.kids.length aV2,.slice aOO wG.env.length aOP]) rfl (pm1 rfl) (by kernel_rfl) (fun a8a a8b O6 a8c=>?_)
  have aV3:w.heap.size≤aOJ.heap.size:=T.size;have a8d:=aA.yP Vo (dB);have a8e:=aH.both Vp (dB);have a8f:=aA.yP Vq (dB);have a8g:=Ap.cons (Ap.ku (aI gY.lt)) (Ap.append (Ap.append (aP avk) avo) (aP avs));have a8h:=Ap.cons (Ap.ku (aI jf.lt)) (Ap.append (Ap.append (aP avl) avp) (aP avt));have a8i:=Ap.cons (Ap.ku (aI ES.lt)) (Ap.append (Ap.append (aP avm) avq) (aP avu));have a8j:=Ap.cons (Ap.ku (aI gI.lt)) (Ap.append (Ap.append (aP avn) avr) (aP avv));have a8k:=Ap.cons (Ap.ku (aA.je Lm)) (Ap.append (Ap.append (Dj.ap azR) azS) (Dj.ap azT));have a8l:=Ap.cons (Ap.ku (aA.je WB)) (Ap.append (Ap.append (Dj.ap al2) al8) (Dj.ap amd));have aNR:=Ap.cons (Ap.ku (aA.je bW)) (Ap.append (Ap.append (Dj.ap al3) al9) (Dj.ap ame));have aNS:=Ap.cons (Ap.ku (aH.hi bY)) (Ap.append (Ap.append al4 al_) amf);have aNT:=Ap.cons (Ap.ku (aA.je bZ)) (Ap.append (Ap.append (Dj.ap al5) ama) (Dj.ap amg));have aNU:=Ap.cons (Ap.ku (aH.hi b_)) (Ap.append (Ap.append al6 amb) amh);have aNV:=Ap.cons (Ap.ku (aH.hi bH)) (Ap.append (Ap.append al7 amc) ami);have gY:=aX gY O6;have jf:=aX jf O6;have ES:=aX ES O6;have gI:=aX gI O6;have Lm:=aA.below Lm O6;have WB:=aA.below WB O6;have bW:=aA.below bW O6;have bY:=aH.below aC bY O6;have bZ:=aA.below bZ O6;have b_:=aH.below aQ b_ O6;have bH:=aH.below aS bH O6;have Vo:=aA.below Vo O6;have Vp:=aH.below aC Vp O6;have Vq:=aA.below Vq O6;have T:=Tt T O6;obtain ⟨aV4,a8m,aV5,aFz,a8n⟩:=aA.EN fI Vo;obtain ⟨_,_,_,aD5,aOQ,aNW,aD6,aiH,aNX⟩:=aH.Ua aC Vp;injection aOQ with e1 e2 e3; subst e1 e2 e3;obtain ⟨aD7,aNZ,aD8,amM,aN0⟩:=aA.EN fI Vq;have a8o:aH 73 fD 6 a8a w.heap.size (.slice (some ⟨aOJ.heap.size,0,none⟩) 1 1) [(⟨aje.done,(⟨(⟨wG.term.kind,wG.term.value,wG.term.data,wG.term.kids⟩:ak),wG.env⟩:ay)⟩:bD)] (aOJ.heap.size :: (((fb (.slice aOM wG.term.data.length aON)) ++ V4) ++ (fb (.slice aOO wG.env.length aOP)))):=aH.agZ (b1:=((aV4 ++ aD5) ++ aD7)) a8b aV3 ⟨_,_,_,_,_,_,_,_,_,aV4,aD5,aD7,rfl,⟨a8m,a8n⟩,⟨aNW,aNX⟩,⟨aNZ,aN0⟩,rfl⟩ aS (ql (ql aV5 aD6 aFz aiH avg) aD8 (yO aFz aiH) amM (Ap.append (Dj.ap avh) avi)) (yO (yO aFz aiH) amM) (all2 (all2 a8d a8e) a8f)
  refine RL.nil ⟨⟨gI,⟨T,gY⟩⟩,?_⟩;refine RX.act rfl rfl ?_;obtain ⟨_,a8p,hm⟩:=bnd hm;have aV6:=h_ a8p;refine RL.GX aS Gu (by decide) Az rfl rfl rfl bH a8o (Ap.symm aNV) T.size aV6 (fun bes bet aV7 aFA RZ aFB R_=>?_);have a8q:=aFB.size;have a8r:=Ap.app R_ KI a8g (aI gY.lt);have a8s:=Ap.app R_ KJ a8h (aI jf.lt);have a8t:=Ap.app R_ KL a8i (aI ES.lt);have aV8:=Ap.app R_ KN a8j (aI gI.lt);have a8u:=Ap.app R_ Vm a8k (aA.je Lm);have aN1:=Ap.app R_ Ba a8l (aA.je WB);have aH0:=Ap.app R_ jT aNR (aA.je bW);have aTT:=Ap.app R_ jU aNS (aH.hi bY);have aN2:=Ap.app R_ jV aNT (aA.je bZ);have aN3:=Ap.app R_ jW aNU (aH.hi b_);have gY:=dD.kept gY RZ (aH.ML bH KI);have jf:=dD.kept jf RZ (aH.ML bH KJ);have ES:=dD.kept ES RZ (aH.ML bH KL);have gI:=dD.kept gI RZ (aH.ML bH KN);have Lm:=aA.Aa Lm RZ (aH.dj bH Vm);have WB:=aA.Aa WB RZ (aH.dj bH Ba);have bW:=aA.Aa bW RZ (aH.dj bH jT);have bY:=aH.grown aC bY RZ (aH.P5 bH jU);have bZ:=aA.Aa bZ RZ (aH.dj bH jV);have b_:=aH.grown aQ b_ RZ (aH.P5 bH jW);have T:=T.trans aFB;refine RL.nil ⟨⟨gI,⟨T,gY⟩⟩,?_⟩;refine RX.y rfl rfl (Y.fieldAddr (off:=6) D6 (by kernel_rfl))<|RX.anM rfl rfl ?_;obtain ⟨aOR,aOS,rfl⟩:=aH.form aFA;have a8v:=aH.bound aFA;refine RL.store (v:=.slice aOR ((iC.heap ++ [(⟨aje.done,(⟨(⟨wG.term.kind,wG.term.value,wG.term.data,wG.term.kids⟩:ak),wG.env⟩:ay)⟩:bD)]).length) aOS) (cs':=#[.int .i64 iC.control.term.kind,.int .i64 iC.control.term.value,iD,yw,iE,yx,.slice aOR ((iC.heap ++ [(⟨aje.done,(⟨(⟨wG.term.kind,wG.term.value,wG.term.data,wG.term.kids⟩:ak),wG.env⟩:ay)⟩:bD)]).length) aOS]) rfl rfl rfl gI (by kernel_rfl) (by rfl) (by rfl) (by rfl) (fun beu a8w V5=>?_);have a8x:=V5.size;have gY:=gY.bK V5 (by intro hin; simp at hin; exact aa3 hin)
  have jf:=jf.bK V5 (by intro hin; simp at hin; exact Vj hin);have ES:=ES.bK V5 (by intro hin; simp at hin; exact aa4 hin);have Lm:=aA.only Lm V5 azP;have WB:=aA.only WB V5 ET;have bW:=aA.only bW V5 KE;have bY:=aH.only aC bY V5 (Ap.one KF);have bZ:=aA.only bZ V5 KG;have b_:=aH.only aQ b_ V5 (Ap.one KH);have aFA:=aH.only aS aFA V5 (Ap.one aV8);have T:=T.trans (V5.below (by first|(simp; done)|(simp; omega)));refine RL.nil ⟨⟨T,gY⟩,?_⟩;refine RX.nil_ ?_;refine eF (ah ?_);refine au rfl<|RQ.y rfl (Y.dS asl rfl (bn (m:=FQ) (by omega)))<|dF (.int .i64 (FQ+1))<|RQ.nil ?_;exact (ah ⟨g,_,Nat.lt_succ_self _,rfl,⟨(FQ+1),(kX Rt FQ (iC.heap.length:Int)),(⟨(⟨(⟨iC.control.term.kind,iC.control.term.value,iC.control.term.data,iC.control.term.kids⟩:ak),iC.control.env⟩:ay),iC.stack,(iC.heap ++ [(⟨aje.done,(⟨(⟨wG.term.kind,wG.term.value,wG.term.data,wG.term.kids⟩:ak),wG.env⟩:ay)⟩:bD)])⟩:aN),(.slice (some ⟨azQ,0,none⟩) Rt.length aOI),(iD),(yw),fG,(iE),(yx),fH,(.slice aOR ((iC.heap ++ [(⟨aje.done,(⟨(⟨wG.term.kind,wG.term.value,wG.term.data,wG.term.kids⟩:ak),wG.env⟩:ay)⟩:bD)]).length) aOS),aV7,jE,Dt,I8,D6,aFr,aFs,rfl,(by omega),ES,WB,a8w,bW,bY,bZ,b_,aFA,(Ap.dj (Dj.ap Vl)),(aJ (aP KA)),(aJ (aP KC)),(aJ (aP KD)),(aJ (aP ET)),(Ap.dj (Dj.ap Et)),(Ap.dj (Dj.ap ac_)),(aJ (aP Rz)),(aJ (aP RD)),(aJ (aP RF)),(aJ (aP KE)),Eu,pR,ada,RH,RI,RJ,KF,(Ap.dj (Dj.ap Ew)),(Ap.dj (Dj.ap pU)),pV,(Ap.dj (Dj.ap adb)),(aJ (aP RN)),(aJ (aP RP)),(aJ (aP RS)),(aJ (aP KG)),Ey,pW,pX,pY,ade,RU,RV,RY,KH,aN1,aH0,aTT,aN2,aN3,a8u,a8r,a8s,a8t,aV8,gY,jf,Lm,T,(by rw [← d_]; exact hm)⟩⟩)
end
section
open Go.RowKit
/-- A loop that appends, for each element, at most one thing to a part of its state. -/
theorem aFC {α β σ ρ:Type} {L:Nat→Int→σ→Option ρ} {ps:List α} {f:α→List β} {put:List β→σ} {K:σ→Option ρ} (hf :∀p,(f p).length≤1)
  (h :∀g (k:Nat) acc p,ps[k]? = some p→acc.length≤k→L (g+1) (k:Int) (put acc)=L g ((k:Int)+1) (put (acc ++ f p))) (he :∀g acc,L (g+1) (ps.length:Int) (put acc)=K (put acc)):L (ps.length+1) 0 (put [])=K (put (ps.flatMap f)):=by
 have key :∀(q k g:Nat) (acc:List β),k+q=ps.length→q < g→acc.length≤k→L g (k:Int) (put acc)=K (put (acc ++ (ps.drop k).flatMap f)):=by
  intro q
  induction q with
  |zero=>
   intro k g acc hk hg ha
   obtain ⟨g,rfl⟩ :∃g',g=g'+1:=⟨g - 1,by omega⟩
   rw [show k=ps.length by omega,he,List.drop_length]; simp
  |succ q ih=>
   intro k g acc hk hg ha
   obtain ⟨g,rfl⟩ :∃g',g=g'+1:=⟨g - 1,by omega⟩
   have hl:k < ps.length:=by omega
   have h1:=hf ps[k]
   rw [h g k acc ps[k] (List.getElem?_eq_getElem hl) ha,List.drop_eq_getElem_cons hl,List.flatMap_cons,show ((k:Int)+1)=((k+1:Nat):Int) by omega,ih (k+1) g _ (by omega) (by omega) (by rw [List.length_append]; omega),List.append_assoc]
 have:=key ps.length 0 (ps.length+1) [] (by omega) (by omega) (by simp)
 simpa using this
theorem aa5 {α β σ ρ:Type} {L:Nat→Int→σ→Option ρ} {xs:List α} {f:α→β} {put:List β→σ} {K:σ→Option ρ}
  (h :∀g (k:Nat) acc x,xs[k]? = some x→acc.length≤k→L (g+1) (k:Int) (put acc)=L g ((k:Int)+1) (put (acc ++ [f x]))) (he :∀g acc,L (g+1) (xs.length:Int) (put acc)=K (put acc)):L (xs.length+1) 0 (put [])=K (put (xs.map f)):=by
 have e :∀ys:List α,ys.flatMap (fun x=>[f x])=ys.map f:=fun ys=>by
  induction ys with
  |nil=>rfl
  |cons y ys ih=>rw [List.flatMap_cons,ih]; rfl
 have:=aFC (L:=L) (ps:=xs) (f:=fun x=>[f x]) (put:=put) (K:=K) (fun p=>by simp) h he
 rw [e xs] at this
 exact this
/-- A loop that sets each element of a part of its state. -/
theorem avw {α σ ρ:Type} {L:Nat→Int→σ→Option ρ} {xs:List α} {f:α→α} {put:List α→σ} {K:σ→Option ρ}
  (h :∀g (k:Nat) ys x,xs[k]? = some x→ys.length=xs.length→ys[k]? = some x→L (g+1) (k:Int) (put ys)=L g ((k:Int)+1) (put (ys.set k (f x)))) (he :∀g ys,ys.length=xs.length→L (g+1) (xs.length:Int) (put ys)=K (put ys)):L (xs.length+1) 0 (put xs)=K (put (xs.map f)):=by
 have key :∀(q k g:Nat),k+q=xs.length→q < g→L g (k:Int) (put ((xs.take k).map f ++ xs.drop k))=K (put (xs.map f)):=by
  intro q
  induction q with
  |zero=>
   intro k g hk hg
   obtain ⟨g,rfl⟩ :∃g',g=g'+1:=⟨g - 1,by omega⟩
   rw [show k=xs.length by omega,List.take_length,List.drop_length,List.append_nil,he _ _ (by simp)]
  |succ q ih=>
   intro k g hk hg
   obtain ⟨g,rfl⟩ :∃g',g=g'+1:=⟨g - 1,by omega⟩
   have hl:k < xs.length:=by omega
   have hlen:((xs.take k).map f).length=k:=by simp; omega
   rw [h g k _ xs[k] (List.getElem?_eq_getElem hl) (by simp; omega) (by
    rw [List.getElem?_append_right (by omega),hlen,Nat.sub_self,List.drop_eq_getElem_cons hl]; rfl)]
   have e:((xs.take k).map f ++ xs.drop k).set k (f xs[k])=(xs.take (k+1)).map f ++ xs.drop (k+1):=by
    rw [List.set_append_right _ _ (by omega),hlen,Nat.sub_self,List.drop_eq_getElem_cons hl,List.set_cons_zero,List.take_add_one,List.getElem?_eq_getElem hl,List.map_append,List.append_assoc]
    rfl
   rw [e,show ((k:Int)+1)=((k+1:Nat):Int) by omega]
   exact ih (k+1) g (by omega) (by omega)
 have:=key xs.length 0 (xs.length+1) (by omega) (by omega)
 simpa using this
theorem apl {α:Type} (xs:List α) (k:Nat) (x:α):kX xs (k:Int) x=xs.set k x:=by unfold kX; simp
theorem aso :∀(dJ:Nat) (x:ak) (d:Int) (m:Nat),SizeOf.sizeOf x≤dJ→Hy x=true→iw x≤m→rE x≤1048576→0≤d→d+m≤9223372036854775807→oJ dJ x 0 d=some x
 |0,x,d,m,h,_,_,_,_,_=>by have:=x.pos; omega
 |dJ+1,x,d,m,hg,ho,hm,hs,h0,h1=>by
  have e:oJ (dJ+1) x 0 d=zD (oJ dJ) x 0 d:=rfl
  have hsz:=hs
  rw [Gz] at hsz
  unfold Ea at hsz
  have hk:=DC x
  rw [e]
  unfold zD og
  rw [kZ (by simp; omega),Option.bind_some,Option.bind_some,List.nil_append]
  have kid :∀y∈x.kids,∀i:Nat,oJ dJ y 0 (d+SV x.kind i)=some y:=fun y hy i=>by
   have h2:=agy x.kind i
   have h3:=ahs (m:=m - 1) (by omega) hy
   have h4:=aaL hy
   have h5:=ak.aQ_ hy
   exact aso dJ y _ (m - 1) (by omega) (aBn ho hy) h3 (by omega) (by omega) (by omega)
  have hv:x.kind=1→ni x.value 0 255=true:=fun h=>by
   rw [Un,Bool.and_eq_true] at ho
   have:=ho.1
   unfold Hw at this
   rw [if_pos h] at this
   simp only [Bool.and_eq_true] at this
   exact this.1.1
  have l1:=aa5 (L:=gJ x 0 d (oJ dJ) kS) (xs:=x.kids) (f:=fun y=>y) (put:=fun acc=>(⟨x.kind,x.value,x.data,acc⟩:ak)) (K:=some)
   (fun g k acc y hy ha=>by
    have hl:=lt_of_some hy
    have hb:=agy x.kind k
    simp -implicitDefEqProofs only [gJ,oP,LD hl,cond_true,gG hy,Option.bind_some,aqc,yA (show -9223372036854775808≤d+SV x.kind k∧d+SV x.kind k≤9223372036854775807 by omega),kid y (List.mem_of_getElem? hy) k]
    rw [kZ (by simp; omega),Option.bind_some])
   (fun g acc=>by simp -implicitDefEqProofs only [gJ,oP,LG,cond_false,kS])
  rw [List.map_id'] at l1
  by_cases k1:x.kind=1
  ·have hv1:=hv k1
   unfold ni at hv1
   simp at hv1
   rw [show (x.kind==1)=true by simp [k1],cond_true]
   cases decide (x.value ≥ d) with
   |true=>
    rw [cond_true,Int.add_zero,yA (by omega),Option.bind_some]
    unfold iU
    rw [l1,PW]
   |false=>
    rw [cond_false]
    unfold iU
    rw [l1,PW]
  ·rw [show (x.kind==1)=false by simp [k1],cond_false]
   unfold iU
   rw [l1,PW]
theorem ajE (xs:List Int) (hs:xs.length≤1048576):iK xs=some xs:=by
 unfold iK
 rw [kZ (by simp; omega),Option.bind_some,List.nil_append]
theorem asq :∀(dJ:Nat) (x:ak),SizeOf.sizeOf x≤dJ→rE x≤1048576→ru dJ x=some x
 |0,x,h,_=>by have:=x.pos; omega
 |dJ+1,x,hg,hs=>by
  have e:ru (dJ+1) x=zQ (ru dJ) x:=rfl
  rw [Gz] at hs
  unfold Ea at hs
  rw [e]
  unfold zQ
  rw [ajE _ (by omega),Option.bind_some]
  have l1:=aa5 (L:=gK x (ru dJ) kU) (xs:=x.kids) (f:=fun y=>y) (put:=fun acc=>(⟨x.kind,x.value,x.data,acc⟩:ak)) (K:=some)
   (fun g k acc y hy ha=>by
    have hl:=lt_of_some hy
    have hm:=List.mem_of_getElem? hy
    have h4:=aaL hm
    have h5:=ak.aQ_ hm
    simp -implicitDefEqProofs only [gK,oQ,LD hl,cond_true,gG hy,Option.bind_some,asq dJ y (by omega) (by omega)]
    rw [kZ (by simp; omega),Option.bind_some])
   (fun g acc=>by simp -implicitDefEqProofs only [gK,oQ,LG,cond_false,kU])
  rw [List.map_id'] at l1
  rw [l1,PW]
theorem Vr (c:ay) (hs:g_ c≤1048576):mV c=some c:=by
 unfold g_ at hs
 unfold mV
 rw [PW,asq _ _ (Nat.le_refl _) (by omega),Option.bind_some,ajE _ (by omega),Option.bind_some,PW]
/-- What a copy by the reference keeps. -/
def anc (c:ay):Prop:=(Hy c.term=true∧iw c.term≤80∧c.term.kind ≠ 0) ∨ c.term=⟨0,0,[],[]⟩
theorem aa6 {n heap:Int} {c:ay} (h:HY n heap c=true):anc c:=by
 unfold HY at h
 simp only [Bool.and_eq_true] at h
 have hv:=h.1.1.1
 have hd:=Bv hv
 refine .inl ⟨hd.1,hd.2,fun hk=>?_⟩
 have:=hd.1
 rw [Un,Bool.and_eq_true] at this
 have hf:=this.1
 unfold Hw at hf
 simp [hk] at hf
theorem avx {c:ay} (h:QH c=true):anc c:=by
 unfold QH at h
 simp only [Bool.and_eq_true,decide_eq_true_eq] at h
 obtain ⟨⟨h1,h2,h3,h4⟩,_⟩:=h
 refine .inr ?_
 rw [← PW c.term,h1,h2,List.eq_nil_of_length_eq_zero h3,List.eq_nil_of_length_eq_zero h4]
structure ajF (m:aN):Prop where
 ct:anc m.control
 st :∀f∈m.stack,anc f.closure
 hp :∀t∈m.heap,anc t.closure
 sz:qo m≤1048576
theorem asr {b:dY} {m:aN} (h:SX b m=true) (hs:qo m≤1048576):ajF m:=by
 unfold SX at h
 simp only [Bool.and_eq_true,List.all_eq_true,decide_eq_true_eq] at h
 obtain ⟨⟨_,⟨h1,h2⟩,h3⟩,h4,h5⟩:=h
 refine ⟨aa6 h3,fun f hf=>?_,fun t ht=>aa6 (h5 t ht).1,hs⟩
 have hfr:=h4 f hf
 unfold frD at hfr
 split at hfr
 ·simp only [Bool.and_eq_true] at hfr
  exact aa6 hfr.2.2
 ·simp only [Bool.and_eq_true] at hfr
  exact avx hfr.1
theorem ajF.szs {m:aN} (C:ajF m):g_ m.control≤1048576∧(∀f∈m.stack,g_ f.closure≤1048576∧f.data.length≤1048576)∧(∀t∈m.heap,g_ t.closure≤1048576)∧m.stack.length≤1048576∧m.heap.length≤1048576:=by
 have hs:=C.sz
 unfold qo zy AV at hs
 refine ⟨by omega,fun f hf=>?_,fun t ht=>?_,by omega,by omega⟩
 ·have h1:=Hl (f:=Ah) hf
  have e:Ah f=f.data.length+g_ f.closure:=rfl
  omega
 ·have h1:=Hl (f:=yh) ht
  have e:yh t=g_ t.closure:=rfl
  omega
theorem agK (c:ay) (G:anc c) (hs:g_ c≤1048576):vU c=some c:=by
 unfold g_ at hs
 unfold vU og J3
 rw [kZ (by simp; omega),Option.bind_some,Option.bind_some,List.nil_append]
 rcases G with ⟨h1,h2,h3⟩|h
 ·rw [show (c.term.kind != 0)=true by simpa using h3,cond_true,aso _ _ 0 80 (Nat.le_refl _) h1 h2 (by omega) (by omega) (by omega),Option.bind_some,Option.bind_some,PW]
 ·rw [h]
  show some _=some _
  rw [← h]
theorem aKe (f:aO):(⟨f.kind,f.value,f.data,f.closure⟩:aO)=f:=by cases f; rfl
theorem aFD (t:bD):(⟨t.done,t.closure⟩:bD)=t:=by cases t; rfl
theorem aKg (m:aN):(⟨m.control,m.stack,m.heap⟩:aN)=m:=by cases m; rfl
theorem aIx {m:aN} (C:ajF m):zF m=some m:=by
 obtain ⟨z1,z2,z3,z4,z5⟩:=C.szs
 unfold zF
 rw [agK _ C.ct z1,Option.bind_some,D_]
 have l1:=aa5 (L:=jv m (mO m)) (xs:=m.stack) (f:=fun y=>y) (put:=fun acc=>(⟨m.control,acc,[]⟩:aN)) (K:=mO m)
  (fun g k acc y hy ha=>by
   have hl:=lt_of_some hy
   have hm:=List.mem_of_getElem? hy
   have hz:=z2 y hm
   have hd:og y.data=some y.data:=by
    unfold og
    rw [kZ (by simp; omega),Option.bind_some,List.nil_append]
   simp -implicitDefEqProofs only [jv,uh,LD hl,cond_true,gG hy,Option.bind_some,hd,agK _ (C.st y hm) hz.1]
   rw [kZ (by simp; omega),Option.bind_some,D_,D_,aKe])
  (fun g acc=>by simp -implicitDefEqProofs only [jv,uh,LG,cond_false])
 have l2:=aa5 (L:=jr m pz) (xs:=m.heap) (f:=fun y=>y) (put:=fun acc=>(⟨m.control,m.stack,acc⟩:aN)) (K:=some)
  (fun g k acc y hy ha=>by
   have hl:=lt_of_some hy
   have hm:=List.mem_of_getElem? hy
   have hz:=z3 y hm
   simp -implicitDefEqProofs only [jr,ug,LD hl,cond_true,gG hy,Option.bind_some,agK _ (C.hp y hm) hz]
   rw [kZ (by simp; omega),Option.bind_some,D_,D_,aFD])
  (fun g acc=>by simp -implicitDefEqProofs only [jr,ug,LG,cond_false,pz])
 rw [List.map_id'] at l1 l2
 rw [l1]
 unfold mO
 rw [l2,aKg]
theorem aFE {m:aN} (C:ajF m):CS m=some m:=by
 obtain ⟨z1,z2,z3,z4,z5⟩:=C.szs
 unfold CS
 rw [D_,Vr _ z1,Option.bind_some,D_]
 have l1:=aa5 (L:=kW m (oU m)) (xs:=m.stack) (f:=fun y=>y) (put:=fun acc=>(⟨m.control,acc,[]⟩:aN)) (K:=oU m)
  (fun g k acc y hy ha=>by
   have hl:=lt_of_some hy
   have hm:=List.mem_of_getElem? hy
   have hz:=z2 y hm
   simp -implicitDefEqProofs only [kW,xw,LD hl,cond_true,gG hy,Option.bind_some,ajE _ hz.2,D_,Vr _ hz.1]
   rw [kZ (by simp; omega),Option.bind_some,aKe])
  (fun g acc=>by simp -implicitDefEqProofs only [kW,xw,LG,cond_false])
 have l2:=aa5 (L:=kV m sU) (xs:=m.heap) (f:=fun y=>y) (put:=fun acc=>(⟨m.control,m.stack,acc⟩:aN)) (K:=some)
  (fun g k acc y hy ha=>by
   have hl:=lt_of_some hy
   have hm:=List.mem_of_getElem? hy
   have hz:=z3 y hm
   simp -implicitDefEqProofs only [kV,xu,LD hl,cond_true,gG hy,Option.bind_some,D_,Vr _ hz]
   rw [kZ (by simp; omega),Option.bind_some,aFD])
  (fun g acc=>by simp -implicitDefEqProofs only [kV,xu,LG,cond_false,sU])
 rw [List.map_id'] at l1 l2
 rw [l1]
 unfold oU
 rw [l2,aKg]
/-- The new address of a live cell. -/
def ren (l:List Bool) (a:Int):Int:=(((l.take a.toNat).count true:Nat):Int)
def adf:List Bool→Nat→List Int
 |[],_=>[]
 |b :: bs,c=>(c:Int) :: adf bs (bif b then c+1 else c)
def toR:List Bool→Nat→List Int
 |[],_=>[]
 |b :: bs,c=>(bif b then (c:Int) else 0) :: toR bs (bif b then c+1 else c)
theorem axf :∀(l:List Bool) (c k:Nat),k < l.length→(adf l c)[k]? = some ((c+(l.take k).count true:Nat):Int)
 |[],c,k,h=>by simp at h
 |b :: bs,c,0,h=>by simp [adf]
 |b :: bs,c,k+1,h=>by
  have:=axf bs (bif b then c+1 else c) k (by simpa using h)
  rw [adf,List.getElem?_cons_succ,this,List.take_succ_cons,List.count_cons]
  cases b <;> simp <;> omega
theorem aFF :∀(l:List Bool) (c k:Nat),l[k]? = some true→(toR l c)[k]? = some ((c+(l.take k).count true:Nat):Int)
 |[],c,k,h=>by simp at h
 |b :: bs,c,0,h=>by simp at h; subst h; simp [toR]
 |b :: bs,c,k+1,h=>by
  have:=aFF bs (bif b then c+1 else c) k (by simpa using h)
  rw [toR,List.getElem?_cons_succ,this,List.take_succ_cons,List.count_cons]
  cases b <;> simp <;> omega
theorem adg {l:List Bool} {a:Int} (h:Mk l a):fC (adf l 0) a=some (ren l a):=by
 obtain ⟨h0,h1⟩:=h
 unfold fC ren
 rw [if_pos h0,axf l 0 _ (lt_of_some h1),Nat.zero_add]
theorem ajG {l:List Bool} {a:Int} (h:Mk l a):fC (toR l 0) a=some (ren l a):=by
 obtain ⟨h0,h1⟩:=h
 unfold fC ren
 rw [if_pos h0,aFF l 0 _ h1,Nat.zero_add]
/-- A frame, a cell, with new addresses. -/
def ae7 (l:List Bool) (f:aO):aO:=⟨f.kind,if f.kind=1 ∨ f.kind=2 then ren l f.value else f.value,f.data,⟨f.closure.term,f.closure.env.map (ren l)⟩⟩
def azU (l:List Bool) (t:bD):bD:=⟨t.done,⟨t.closure.term,t.closure.env.map (ren l)⟩⟩
def pick (p:Bool × bD):List bD:=bif p.1 then [p.2] else []
def aFG (m:aN) (l:List Bool):aN:=⟨⟨m.control.term,m.control.env.map (ren l)⟩,m.stack.map (ae7 l),((l.zip m.heap).flatMap pick).map (azU l)⟩
theorem agL {to:List Int} {f:Int→Int} :∀{xs:List Int},(∀a∈xs,fC to a=some (f a))→mvM to xs=some (xs.map f)
 |[],_=>rfl
 |x :: xs,h=>by
  show ((fC to x).bind fun y=>(mvM to xs).bind fun ys=>some (y :: ys))=_
  rw [h x (by simp),Option.bind_some,agL (fun a ha=>h a (by simp [ha])),Option.bind_some]; rfl
theorem avy {now:List Int} {f:Int→Int} {xs:List Int} (h :∀a∈xs,fC now a=some (f a)) (hs:xs.length≤1048576):kT xs now=some (xs.map f):=by
 unfold kT
 have l1:=aa5 (L:=fun g i acc=>iP xs now nY g acc i) (xs:=xs) (f:=f) (put:=fun acc=>acc) (K:=some)
  (fun g k acc y hy ha=>by
   have hl:=lt_of_some hy
   simp -implicitDefEqProofs only [iP,rU,LD hl,cond_true,gG hy,Option.bind_some,h y (List.mem_of_getElem? hy)]
   rw [kZ (by simp; omega),Option.bind_some])
  (fun g acc=>by simp -implicitDefEqProofs only [iP,rU,LG,cond_false,nY])
 exact l1
/-- The live cells hold their roots and what they reach. -/
structure aFH (m:aN) (l:List Bool):Prop where
 len:l.length=m.heap.length
 ct :∀a∈m.control.env,Mk l a
 st :∀f∈m.stack,(∀a∈f.closure.env,Mk l a)∧(f.kind=1 ∨ f.kind=2→Mk l f.value)
 hp :∀(k:Nat) t,l[k]? = some true→m.heap[k]? = some t→∀a∈t.closure.env,Mk l a
theorem asu {m:aN} {l:List Bool} (h:MC m (Ut m) (List.replicate m.heap.length false) l):aFH m l:=by
 have hc:=h.aBw (fun a ha=>absurd ha (abx _ a))
 have hst :∀f∈m.stack,∀a∈H6 f,Mk l a:=fun f hf a ha=>h.root a (by
  unfold Ut
  exact List.mem_append_right _ (List.mem_flatMap.2 ⟨f,hf,ha⟩))
 refine ⟨by have:=h.len; simpa using this,fun a ha=>h.root a (by unfold Ut; exact List.mem_append_left _ ha),fun f hf=>⟨fun a ha=>hst f hf a (by unfold H6; exact List.mem_append_right _ ha),fun hk=>hst f hf _ ?_⟩,fun k t hk ht a ha=>?_⟩
 ·unfold H6
  refine List.mem_append_left _ ?_
  rcases hk with h|h <;> simp [h]
 ·exact hc (k:Int) ⟨by omega,by rw [Int.toNat_natCast]; exact hk⟩ a (by rw [anG ht]; exact ha)
/-- The loop that lists the new addresses. -/
theorem aIy {ρ:Type} {L:Nat→List Int→Int→Int→Option ρ} {l:List Bool} {K:List Int→Option ρ}
  (h :∀g acc (c:Nat) (k:Nat) (hk:k < l.length),acc.length=k→c≤k→L (g+1) acc (c:Int) (k:Int)=L g (acc ++ [(c:Int)]) ((bif l[k] then c+1 else c:Nat):Int) ((k:Int)+1)) (he :∀g acc c,L (g+1) acc c (l.length:Int)=K acc):L (l.length+1) [] 0 0=K (adf l 0):=by
 have key :∀(q k g:Nat) (acc:List Int) (c:Nat),k+q=l.length→q < g→acc.length=k→c≤k→L g acc (c:Int) (k:Int)=K (acc ++ adf (l.drop k) c):=by
  intro q
  induction q with
  |zero=>
   intro k g acc c hk hg ha hc
   obtain ⟨g,rfl⟩ :∃g',g=g'+1:=⟨g - 1,by omega⟩
   rw [show k=l.length by omega,he,List.drop_length,adf,List.append_nil]
  |succ q ih=>
   intro k g acc c hk hg ha hc
   obtain ⟨g,rfl⟩ :∃g',g=g'+1:=⟨g - 1,by omega⟩
   have hl:k < l.length:=by omega
   rw [h g acc c k hl ha hc,List.drop_eq_getElem_cons hl,adf,show ((k:Int)+1)=((k+1:Nat):Int) by omega,ih (k+1) g _ _ (by omega) (by omega) (by simp; omega) (by cases l[k] <;> simp <;> omega),List.append_assoc]
   rfl
 have:=key l.length 0 (l.length+1) [] 0 (by omega) (by omega) rfl (by omega)
 simpa using this
/-- The loop that lists the new addresses and copies the live cells. -/
theorem aOT {σ ρ:Type} {L:Nat→Int→List Int→σ→Option ρ} {l:List Bool} {hp:List bD} {put:List bD→σ} {K:List Int→σ→Option ρ} (hlen:hp.length=l.length)
  (h :∀g to acc (k:Nat) (hk:k < l.length) (hk2:k < hp.length),to.length=l.length→acc.length≤k→L (g+1) (k:Int) to (put acc)=bif l[k] then L g ((k:Int)+1) (kX to (k:Int) (acc.length:Int)) (put (acc ++ [hp[k]])) else L g ((k:Int)+1) to (put acc)) (he :∀g to s,L (g+1) (l.length:Int) to s=K to s) :
  L (l.length+1) 0 (List.replicate l.length 0) (put [])=K (toR l 0) (put ((l.zip hp).flatMap pick)):=by
 have key :∀(q k g:Nat) (dn:List Int) (acc:List bD),k+q=l.length→q < g→dn.length=k→acc.length≤k→L g (k:Int) (dn ++ List.replicate q 0) (put acc)=K (dn ++ toR (l.drop k) acc.length) (put (acc ++ ((l.drop k).zip (hp.drop k)).flatMap pick)):=by
  intro q
  induction q with
  |zero=>
   intro k g dn acc hk hg hd ha
   obtain ⟨g,rfl⟩ :∃g',g=g'+1:=⟨g - 1,by omega⟩
   rw [show k=l.length by omega,he,List.drop_length,toR]
   simp
  |succ q ih=>
   intro k g dn acc hk hg hd ha
   obtain ⟨g,rfl⟩ :∃g',g=g'+1:=⟨g - 1,by omega⟩
   have hl:k < l.length:=by omega
   have hl2:k < hp.length:=by omega
   rw [h g _ acc k hl hl2 (by simp; omega) ha,List.drop_eq_getElem_cons hl,List.drop_eq_getElem_cons hl2,toR,show ((k:Int)+1)=((k+1:Nat):Int) by omega,List.zip_cons_cons,List.flatMap_cons,List.replicate_succ]
   cases hb:l[k] with
   |true=>
    rw [cond_true,cond_true,cond_true,apl,List.set_append_right _ _ (by omega),hd,Nat.sub_self,List.set_cons_zero]
    have:=ih (k+1) g (dn ++ [(acc.length:Int)]) (acc ++ [hp[k]]) (by omega) (by omega) (by simp; omega) (by simp; omega)
    rw [List.append_assoc,List.append_assoc,List.append_assoc,List.length_append] at this
    exact this
   |false=>
    rw [cond_false,cond_false,cond_false]
    have:=ih (k+1) g (dn ++ [0]) acc (by omega) (by omega) (by simp; omega) (by omega)
    rw [List.append_assoc,List.append_assoc] at this
    exact this
 have:=key l.length 0 (l.length+1) [] [] (by omega) (by omega) rfl (by simp)
 simpa using this
theorem aFI {l:List Bool} {hp:List bD} {t:bD} (h:t∈(l.zip hp).flatMap pick) :∃k:Nat,l[k]? = some true∧hp[k]? = some t:=by
 obtain ⟨⟨b,u⟩,hp1,hp2⟩:=List.mem_flatMap.1 h
 unfold pick at hp2
 cases b with
 |false=>cases hp2
 |true=>
  simp at hp2
  subst hp2
  obtain ⟨k,hk⟩:=List.getElem?_of_mem hp1
  rw [List.getElem?_zip_eq_some] at hk
  exact ⟨k,hk.1,hk.2⟩
theorem ajH :∀(l:List Bool) (hp:List bD),((l.zip hp).flatMap pick).length≤hp.length
 |[],hp=>by simp
 |b :: bs,[]=>by simp
 |b :: bs,t :: ts=>by
  have:=ajH bs ts
  rw [List.zip_cons_cons,List.flatMap_cons,List.length_append]
  have h1:(pick (b,t)).length≤1:=by unfold pick; cases b <;> simp
  rw [List.length_cons]; omega
theorem avz {m:aN} {l:List Bool} (G:VA m) (C:ajF m) (hl:tN m=some l) (V:aFH m l):zN m=some (aFG m l):=by
 obtain ⟨z1,z2,z3,z4,z5⟩:=C.szs
 have hln:=V.len
 have hgs:=G.small
 unfold zN
 rw [hl,Option.bind_some,aIx C,Option.bind_some]
 rw [aIy (L:=jA l (mQ m l m)) (l:=l) (K:=mQ m l m)
  (fun g acc c k hk ha hc=>by
   simp -implicitDefEqProofs only [jA,uo,LD hk,cond_true]
   rw [kZ (by simp; omega),Option.bind_some,jY hk,Option.bind_some]
   cases l[k] with
   |true=>rw [cond_true,cond_true,yA (by omega),Option.bind_some]; rfl
   |false=>rw [cond_false,cond_false])
  (fun g acc c=>by simp -implicitDefEqProofs only [jA,uo,LG,cond_false])]
 unfold mQ
 rw [D_]
 have hzl:(l.zip m.heap).length=l.length:=by rw [List.length_zip]; omega
 have l2:=aFC (L:=jy m l (adf l 0) (mP (adf l 0))) (ps:=l.zip m.heap) (f:=fun p=>(pick p).map (azU l)) (put:=fun acc=>(⟨m.control,m.stack,acc⟩:aN)) (K:=mP (adf l 0)) (fun p=>by unfold pick; cases p.1 <;> simp)
  (fun g k acc p hp ha=>by
   obtain ⟨b,t⟩:=p
   rw [List.getElem?_zip_eq_some] at hp
   obtain ⟨h1,h2⟩:=hp
   have hk:=lt_of_some h1
   have hk2:=lt_of_some h2
   have hm:=List.mem_of_getElem? h2
   simp -implicitDefEqProofs only [jy,um,LD hk,cond_true,gG h1,Option.bind_some]
   cases b with
   |false=>rw [cond_false]; simp [pick]
   |true=>
    have hz:=z3 t hm
    have hz':g_ t.closure=rE t.closure.term+t.closure.env.length:=rfl
    rw [cond_true,gG h2,Option.bind_some,Option.bind_some,agK _ (C.hp t hm) hz,Option.bind_some,avy (f:=ren l) (fun a ha=>adg (V.hp k t h1 h2 a ha)) (by omega),Option.bind_some,kZ (by simp; omega),Option.bind_some,D_,PW]
    rfl)
  (fun g acc=>by rw [hzl]; simp -implicitDefEqProofs only [jy,um,LG,cond_false])
 rw [hzl,← List.map_flatMap] at l2
 rw [l2]
 unfold mP
 have hzc:g_ m.control=rE m.control.term+m.control.env.length:=rfl
 rw [avy (f:=ren l) (fun a ha=>adg (V.ct a ha)) (by omega),Option.bind_some,PW]
 have l3:=avw (L:=jw (adf l 0) pO) (xs:=m.stack) (f:=ae7 l) (put:=fun ys=>(⟨⟨m.control.term,m.control.env.map (ren l)⟩,ys,((l.zip m.heap).flatMap pick).map (azU l)⟩:aN)) (K:=pO)
  (fun g k ys x hx hly hyx=>by
   have hk:k < ys.length:=lt_of_some hyx
   have hm:=List.mem_of_getElem? hx
   have hz:=z2 x hm
   have hzx:g_ x.closure=rE x.closure.term+x.closure.env.length:=rfl
   obtain ⟨v1,v2⟩:=V.st x hm
   have hr:=avy (now:=adf l 0) (f:=ren l) (fun a ha=>adg (v1 a ha)) (by omega)
   simp -implicitDefEqProofs only [jw,uj,LD hk,cond_true,gG hyx,Option.bind_some,PW,D_,apl,List.set_set]
   by_cases k1:x.kind=1
   ·rw [show (x.kind==1)=true by simp [k1],cond_true,adg (v2 (.inl k1)),Option.bind_some,hr,Option.bind_some]
    unfold ae7
    rw [if_pos (.inl k1)]
   rw [show (x.kind==1)=false by simp [k1],cond_false]
   by_cases k2:x.kind=2
   ·rw [show (x.kind==2)=true by simp [k2],cond_true,adg (v2 (.inr k2)),Option.bind_some,hr,Option.bind_some]
    unfold ae7
    rw [if_pos (.inr k2)]
   rw [show (x.kind==2)=false by simp [k2],cond_false,hr,Option.bind_some]
   unfold ae7
   rw [if_neg (by omega)])
  (fun g ys hly=>by simp -implicitDefEqProofs only [jw,uj,hly,LG,cond_false])
 rw [l3]
 rfl
theorem avA {b:dY} {m:aN} {l:List Bool} (S:ad4 b m) (hn:SX b m=true) (G:VA m) (C:ajF m) (hl:r_ (m.heap.length+2) m=some l) (V:aFH m l):sV b m=some (aFG m l,0):=by
 obtain ⟨z1,z2,z3,z4,z5⟩:=C.szs
 have hln:=V.len
 have hgs:=G.small
 have hpl:=ajH l m.heap
 unfold sV
 rw [awF b m S,hn,Option.bind_some,cond_true,kZ (by omega),Option.bind_some,aFE C,Option.bind_some,hl,Option.bind_some,D_]
 have l1:=aOT (L:=iT m l lJ) (l:=l) (hp:=m.heap) (put:=fun acc=>(⟨m.control,m.stack,acc⟩:aN)) (K:=lJ) hln.symm
  (fun g to acc k hk hk2 ht ha=>by
   have hz:=z3 _ (List.getElem_mem hk2)
   simp -implicitDefEqProofs only [iT,rX,LD hk,cond_true,jY hk,Option.bind_some,jY (show k < to.length by omega),jY hk2,Vr _ hz,D_,aFD]
   cases l[k] with
   |false=>rfl
   |true=>rw [cond_true,cond_true,kZ (by simp; omega),Option.bind_some])
  (fun g to s=>by simp -implicitDefEqProofs only [iT,rX,LG,cond_false])
 rw [hln] at l1
 rw [hln,l1]
 unfold lJ
 have hzc:g_ m.control=rE m.control.term+m.control.env.length:=rfl
 rw [agL (f:=ren l) (fun a ha=>ajG (V.ct a ha)),Option.bind_some,PW]
 have l2:=avw (L:=iR (toR l 0) ⟨m.control,m.stack,(l.zip m.heap).flatMap pick⟩ (lI (toR l 0))) (xs:=m.stack) (f:=ae7 l) (put:=fun ys=>(⟨⟨m.control.term,m.control.env.map (ren l)⟩,ys,(l.zip m.heap).flatMap pick⟩:aN)) (K:=lI (toR l 0))
  (fun g k ys x hx hly hyx=>by
   have hk:k < m.stack.length:=lt_of_some hx
   have hk':k < ys.length:=lt_of_some hyx
   have hm:=List.mem_of_getElem? hx
   have hz:=z2 x hm
   obtain ⟨v1,v2⟩:=V.st x hm
   have hr:=agL (to:=toR l 0) (f:=ren l) (fun a ha=>ajG (v1 a ha))
   simp -implicitDefEqProofs only [iR,rW,LD hk,cond_true,gG hyx,Option.bind_some,PW,D_,apl,List.set_set,hr]
   by_cases k1:x.kind=1
   ·rw [show (x.kind==1)=true by simp [k1],cond_true,ajG (v2 (.inl k1)),Option.bind_some]
    unfold ae7
    rw [if_pos (.inl k1)]
   rw [show (x.kind==1)=false by simp [k1],cond_false]
   by_cases k2:x.kind=2
   ·rw [show (x.kind==2)=true by simp [k2],cond_true,ajG (v2 (.inr k2)),Option.bind_some]
    unfold ae7
    rw [if_pos (.inr k2)]
   rw [show (x.kind==2)=false by simp [k2],cond_false]
   unfold ae7
   rw [if_neg (by omega)])
  (fun g ys hly=>by simp -implicitDefEqProofs only [iR,rW,LG,cond_false])
 rw [l2]
 unfold lI
 have l3:=avw (L:=iQ (toR l 0) ⟨⟨m.control.term,m.control.env.map (ren l)⟩,m.stack.map (ae7 l),(l.zip m.heap).flatMap pick⟩ nZ) (xs:=(l.zip m.heap).flatMap pick) (f:=azU l) (put:=fun ys=>(⟨⟨m.control.term,m.control.env.map (ren l)⟩,m.stack.map (ae7 l),ys⟩:aN)) (K:=nZ)
  (fun g k ys x hx hly hyx=>by
   have hk:k < ((l.zip m.heap).flatMap pick).length:=lt_of_some hx
   obtain ⟨k',h1,h2⟩:=aFI (List.mem_of_getElem? hx)
   have hr:=agL (to:=toR l 0) (f:=ren l) (fun a ha=>ajG (V.hp k' x h1 h2 a ha))
   simp -implicitDefEqProofs only [iQ,rV,LD hk,cond_true,gG hyx,Option.bind_some,PW,D_,apl,hr]
   rfl)
  (fun g ys hly=>by simp -implicitDefEqProofs only [iQ,rV,LG,cond_false])
 rw [l3]
 rfl
/-- What CollectNeed makes of a machine. -/
noncomputable def dH (b:dY) (m:aN):aN × Int:=bif SX b m then (aFG m ((tN m).getD []),0) else (⟨⟨⟨0,0,[],[]⟩,[]⟩,[],[]⟩,1)
theorem ajI (b:dY) (m:aN) (S:ad4 b m) (hs:qo m≤1048576):BH b m=some (dH b m):=by
 unfold BH dH
 rw [aGT b m S,Option.bind_some]
 cases h:SX b m with
 |false=>rfl
 |true=>
  have G:=aqe h
  obtain ⟨l,e,St⟩:=anH G
  rw [cond_true,cond_true,avz G (asr h hs) e (asu St),Option.bind_some,e,Option.getD_some]
theorem ajJ (b:dY) (m:aN) (S:ad4 b m) (hs:qo m≤1048576):sV b m=some (dH b m):=by
 unfold dH
 cases h:SX b m with
 |false=>
  unfold sV
  rw [awF b m S,h,Option.bind_some]; rfl
 |true=>
  have G:=aqe h
  obtain ⟨l,e,St⟩:=anH G
  rw [avA S h G (asr h hs) ((axN G).trans e) (asu St),e,Option.getD_some,cond_true]
end
section
open Go.RowKit Go.ChangeShapes Go.WideShapes Go.Deep Go.WideMaps
def Opens {α:Type} (P:Program) (t:TypeId) (R:Rd α):Prop:=∀(H:Type) (enc:TypeId × Value→H) (W:World) (fuel:Nat) (cs:List Value) (x:DataW H × List MemPlace),
 DataW.trod enc P W 0 (fun _=>true) true fuel t cs=some x→∃d,R W W.heap.size cs d
theorem JO {P:Program} {t:TypeId} (ht:P.underlying t=some (.int .i64)):Opens P t nR:=fun H enc W fuel cs x h=>by
 obtain ⟨n,hc,_,_⟩:=DataW.trod_int ht h
 exact ⟨n,hc⟩
theorem avC {P:Program} {t:TypeId} (ht:P.underlying t=some .bool):Opens P t asH:=fun H enc W fuel cs x h=>by
 obtain ⟨n,hc,_⟩:=DataW.trod_bool ht h
 exact ⟨n,hc⟩
theorem ane {w:World} {a:Addr} {v:Value} (h:w.cell? a=some v):a.spot=none:=by
 unfold World.cell? at h
 split at h
 ·cases hs:a.spot with
  |none=>rfl
  |some s=>simp [hs] at h
 ·simp at h
theorem GH {α:Type} {P:Program} {t e:TypeId} {R:Rd α} {sz:Nat} (ht:P.underlying t=some (.slice e)) (hsz:P.cellsOf e=sz) (hpos:0 < sz) (ok:Sz R sz) (he:Opens P e R):Opens P t (aPB R sz):=fun H enc W fuel cs x h=>by
 rcases open_slice ht h with ⟨rfl,rfl⟩|⟨a,len,cap,m,n,D,Pl,rfl,hb,hl,hm,hmm,hx,hel⟩
 ·exact ⟨[],none,0,0,rfl,aY.none_,Nat.le_refl _,Nat.zero_le _⟩
 ·have hmc:len≤m:=by rw [hmm]; simp; omega
  have avD :∀i,i < len→∃p:List Value × α,R W W.heap.size p.1 p.2∧∀j,j < sz→W.cell? (a.add (i * sz+j))=p.1[j]?:=fun i hi=>by
   obtain ⟨cs',hc,htr⟩:=hel i (by omega)
   obtain ⟨d,hd⟩:=he H enc W n cs' (D i,Pl i) htr
   obtain ⟨_,hlen,hat⟩:=World.cells?_some hc
   exact ⟨(cs',d),hd,fun j hj=>by
    have:=hat j (by rw [hsz]; exact hj)
    rw [hsz,Go.Deep.add_add] at this
    exact this⟩
  rcases Nat.eq_zero_or_pos len with h0|h0
  ·subst h0
   exact ⟨[],some a,0,cap,rfl,aY.none_,Nat.zero_le _,hm⟩
  ·have hne:Nonempty (List Value × α):=let ⟨p,_⟩:=avD 0 h0; ⟨p⟩
   have hf :∃f:Nat→List Value × α,∀i,i < len→R W W.heap.size (f i).1 (f i).2∧∀j,j < sz→W.cell? (a.add (i * sz+j))=(f i).1[j]?:=by
    classical
    refine ⟨fun i=>if hi:i < len then Classical.choose (avD i hi) else Classical.choice hne,fun i hi=>?_⟩
    simp only [dif_pos hi]
    exact Classical.choose_spec (avD i hi)
   obtain ⟨f,hf⟩:=hf
   have hc0 :∃v,W.cell? a=some v:=by
    obtain ⟨hR,hc⟩:=hf 0 h0
    have hlR:=ok.len hR
    have h1:=hc 0 hpos
    have h2:a.add (0 * sz+0)=a:=by simp [Addr.add]
    rw [h2,List.getElem?_eq_getElem (by omega)] at h1
    exact ⟨_,h1⟩
   obtain ⟨v0,hv0⟩:=hc0
   have hsp:=ane hv0
   have hbl:=World.block_lt_of_cell? _ _ hv0
   have ea:a=⟨a.block,a.off,none⟩:=by cases a; simp_all
   refine ⟨(List.range len).map fun i=>(f i).2,some a,len,cap,rfl,⟨by simp,fun _=>⟨a.block,a.off,by rw [← ea],hbl,fun i x hx=>?_⟩⟩,hl,hm⟩
   have hi:i < len:=by simpa using lt_of_some hx
   have hx':(f i).2=x:=by simpa [hi] using hx
   subst hx'
   obtain ⟨hR,hc⟩:=hf i hi
   refine ⟨_,hR,fun j v hj=>?_⟩
   have hj':j < sz:=by have:=lt_of_some hj; rw [ok.len hR] at this; exact this
   have h1:=hc j hj'
   rw [hj] at h1
   have e2:a.add (i * sz+j)=⟨a.block,a.off+i * sz+j,none⟩:=by
    rw [ea]; simp only [Addr.add_lit]; congr 1; omega
   rw [← e2]
   exact h1
/-- An argument's value as its cells. -/
theorem azV {α:Type} {P:Program} {t:TypeId} {R:Rd α} (h:Opens P t R) {H:Type} {enc:TypeId × Value→H} {W:World} {v:Value} {d:DataW H} {ps:List MemPlace} (ht:DataW.Trod enc P W 0 (fun _=>true) true t v d ps) :∃x,R W W.heap.size v.cells.toList x:=by
 obtain ⟨fuel,hf⟩:=ht
 exact h H enc W fuel _ _ hf
end
section
open Go.RowKit Go.ChangeShapes Go.WideShapes Go.Deep Go.WideMaps
theorem Lp {P:Program} {t:TypeId} {fs:Array Field} {H:Type} {enc:TypeId × Value→H} {W:World} {fuel:Nat} {cs:List Value} {x:DataW H × List MemPlace} (ht:P.underlying t=some (.struct fs)) (h:DataW.trod enc P W 0 (fun _=>true) true fuel t cs=some x) :
  cs.length=P.cellsOf t∧∃n,∀(i:Nat) (f:Field),fs[i]? = some f→∃y,DataW.trod enc P W 0 (fun _=>true) true n f.type ((cs.drop f.offset).take (P.cellsOf f.type))=some y:=by
 obtain ⟨xs,n,_,_,hl,hlen,hf⟩:=DataW.trod_struct ht h
 refine ⟨hl,n,fun i f hi=>?_⟩
 have hlt:i < fs.size:=(Array.getElem?_eq_some_iff.1 hi).1
 exact ⟨xs[i],by rw [hf i f hi]; exact List.getElem?_eq_getElem (by omega)⟩
/-- A struct argument. -/
theorem axg {α:Type} {P:Program} {t:TypeId} {fs:Array Field} {R:Rd α} (h:Opens P t R) (ht:P.underlying t=some (.struct fs)) {r:Reach} {b0:Nat} {H:Type} {enc:TypeId × Value→H} {W:World} {v:Value} {d:DataW H} {ps:List MemPlace}
  (hv:Value.okWide P W r b0 t v) (hd:DataW.Trod enc P W 0 (fun _=>true) true t v d ps) :∃x,RdT R W W.heap.size v x:=by
 obtain ⟨cs,rfl,_⟩:=okWide_struct ht hv
 obtain ⟨x,hx⟩:=azV h hd
 exact ⟨x,cs.toList,by simp,by simpa [Value.cells] using hx⟩
end
section
open Go.RowKit Go.ChangeShapes Go.WideShapes Go.Deep Go.WideMaps
/-- Opened, up to a fuel. -/
def apm {α:Type} (m:Nat) (P:Program) (t:TypeId) (R:Rd α):Prop:=∀(H:Type) (enc:TypeId × Value→H) (W:World) (fuel:Nat) (cs:List Value) (x:DataW H × List MemPlace),fuel≤m→
 DataW.trod enc P W 0 (fun _=>true) true fuel t cs=some x→∃d,R W W.heap.size cs d
theorem avE {α:Type} {P:Program} {t:TypeId} {R:Rd α} (h :∀m,apm m P t R):Opens P t R:=fun H enc W fuel cs x hx=>h fuel H enc W fuel cs x (Nat.le_refl _) hx
/-- Elements of a slice, whose own elements lie deeper. -/
theorem apn {α:Type} {m:Nat} {P:Program} {t e:TypeId} {R:Rd α} {sz:Nat} (ht:P.underlying t=some (.slice e)) (hsz:P.cellsOf e=sz) (hpos:0 < sz) (ok:Sz R sz) (he:apm m P e R):apm m P t (aPB R sz):=fun H enc W fuel cs x hf h=>by
 rcases DataW.trod_slice ht h with ⟨rfl,rfl⟩|⟨a,len,cap,elems,rest,n,hfn,rfl,hx,hb,hl,hm,hlen,hel,_,_⟩
 ·exact ⟨[],none,0,0,rfl,aY.none_,Nat.le_refl _,Nat.zero_le _⟩
 ·have avD :∀i,i < len→∃p:List Value × α,R W W.heap.size p.1 p.2∧∀j,j < sz→W.cell? (a.add (i * sz+j))=p.1[j]?:=fun i hi=>by
   have key:=hel i hi
   rw [List.getElem?_eq_getElem (by omega)] at key
   obtain ⟨cs',hc,htr⟩:=Option.bind_eq_some_iff.1 key
   obtain ⟨d,hd⟩:=he H enc W n cs' _ (by omega) htr
   obtain ⟨_,hlen,hat⟩:=World.cells?_some hc
   exact ⟨(cs',d),hd,fun j hj=>by
    have:=hat j (by rw [hsz]; exact hj)
    rw [hsz,Go.Deep.add_add] at this
    exact this⟩
  rcases Nat.eq_zero_or_pos len with h0|h0
  ·subst h0
   exact ⟨[],some a,0,cap,rfl,aY.none_,Nat.zero_le _,hm⟩
  ·have hne:Nonempty (List Value × α):=let ⟨p,_⟩:=avD 0 h0; ⟨p⟩
   have hf :∃f:Nat→List Value × α,∀i,i < len→R W W.heap.size (f i).1 (f i).2∧∀j,j < sz→W.cell? (a.add (i * sz+j))=(f i).1[j]?:=by
    classical
    refine ⟨fun i=>if hi:i < len then Classical.choose (avD i hi) else Classical.choice hne,fun i hi=>?_⟩
    simp only [dif_pos hi]
    exact Classical.choose_spec (avD i hi)
   obtain ⟨f,hf⟩:=hf
   have hc0 :∃v,W.cell? a=some v:=by
    obtain ⟨hR,hc⟩:=hf 0 h0
    have hlR:=ok.len hR
    have h1:=hc 0 hpos
    have h2:a.add (0 * sz+0)=a:=by simp [Addr.add]
    rw [h2,List.getElem?_eq_getElem (by omega)] at h1
    exact ⟨_,h1⟩
   obtain ⟨v0,hv0⟩:=hc0
   have hsp:=ane hv0
   have hbl:=World.block_lt_of_cell? _ _ hv0
   have ea:a=⟨a.block,a.off,none⟩:=by cases a; simp_all
   refine ⟨(List.range len).map fun i=>(f i).2,some a,len,cap,rfl,⟨by simp,fun _=>⟨a.block,a.off,by rw [← ea],hbl,fun i x hx=>?_⟩⟩,hl,hm⟩
   have hi:i < len:=by simpa using lt_of_some hx
   have hx':(f i).2=x:=by simpa [hi] using hx
   subst hx'
   obtain ⟨hR,hc⟩:=hf i hi
   refine ⟨_,hR,fun j v hj=>?_⟩
   have hj':j < sz:=by have:=lt_of_some hj; rw [ok.len hR] at this; exact this
   have h1:=hc j hj'
   rw [hj] at h1
   have e2:a.add (i * sz+j)=⟨a.block,a.off+i * sz+j,none⟩:=by
    rw [ea]; simp only [Addr.add_lit]; congr 1; omega
   rw [← e2]
   exact h1
/-- Fields, with less fuel. -/
theorem apo {P:Program} {t:TypeId} {fs:Array Field} {H:Type} {enc:TypeId × Value→H} {W:World} {fuel:Nat} {cs:List Value} {x:DataW H × List MemPlace} (ht:P.underlying t=some (.struct fs)) (h:DataW.trod enc P W 0 (fun _=>true) true fuel t cs=some x) :
  cs.length=P.cellsOf t∧∃n,fuel=n+1∧∀(i:Nat) (f:Field),fs[i]? = some f→∃y,DataW.trod enc P W 0 (fun _=>true) true n f.type ((cs.drop f.offset).take (P.cellsOf f.type))=some y:=by
 obtain ⟨xs,n,hn,_,hl,hlen,hf⟩:=DataW.trod_struct ht h
 refine ⟨hl,n,hn,fun i f hi=>?_⟩
 have hlt:i < fs.size:=(Array.getElem?_eq_some_iff.1 hi).1
 exact ⟨xs[i],by rw [hf i f hi]; exact List.getElem?_eq_getElem (by omega)⟩
end
section
open Go.RowKit Go.ChangeShapes Go.WideShapes Go.Deep Go.WideMaps
theorem aV9 {α:Type} {l:List α} (h:l.length=1) :∃a0,l=[a0]:=by
 match l,h with
 |[a0],_=>exact ⟨a0,rfl⟩
theorem aV_ {α:Type} {l:List α} (h:l.length=4) :∃a0 a1 a2 a3,l=[a0,a1,a2,a3]:=by
 match l,h with
 |[a0,a1,a2,a3],_=>exact ⟨a0,a1,a2,a3,rfl⟩
theorem aWa {α:Type} {l:List α} (h:l.length=5) :∃a0 a1 a2 a3 a4,l=[a0,a1,a2,a3,a4]:=by
 match l,h with
 |[a0,a1,a2,a3,a4],_=>exact ⟨a0,a1,a2,a3,a4,rfl⟩
theorem aWb {α:Type} {l:List α} (h:l.length=6) :∃a0 a1 a2 a3 a4 a5,l=[a0,a1,a2,a3,a4,a5]:=by
 match l,h with
 |[a0,a1,a2,a3,a4,a5],_=>exact ⟨a0,a1,a2,a3,a4,a5,rfl⟩
theorem aWc {α:Type} {l:List α} (h:l.length=7) :∃a0 a1 a2 a3 a4 a5 a6,l=[a0,a1,a2,a3,a4,a5,a6]:=by
 match l,h with
 |[a0,a1,a2,a3,a4,a5,a6],_=>exact ⟨a0,a1,a2,a3,a4,a5,a6,rfl⟩
theorem aWd {α:Type} {l:List α} (h:l.length=8) :∃a0 a1 a2 a3 a4 a5 a6 a7,l=[a0,a1,a2,a3,a4,a5,a6,a7]:=by
 match l,h with
 |[a0,a1,a2,a3,a4,a5,a6,a7],_=>exact ⟨a0,a1,a2,a3,a4,a5,a6,a7,rfl⟩
theorem asv :∀m,apm m Tryz.prog 27 bf:=fun m=>by
 induction m with
 |zero=>
  intro H enc W fuel cs x hf h
  obtain rfl:fuel=0:=by omega
  simp [DataW.trod] at h
 |succ m ih=>
  intro H enc W fuel cs x hfu h
  obtain ⟨hl,n,hfn,hf⟩:=apo Tryz.underlying27 h
  replace hl:cs.length=4:=hl.trans (by kernel_rfl)
  obtain ⟨a0,a1,a2,a3,rfl⟩:=aV_ hl
  obtain ⟨y0,h0⟩ :∃y,DataW.trod enc Tryz.prog W 0 (fun _=>true) true n 2 (([a0,a1,a2,a3].drop 0).take (Tryz.prog.cellsOf 2))=some y:=hf 0 _ rfl
  have k0:Tryz.prog.cellsOf 2=1:=by kernel_rfl
  rw [k0] at h0; simp only [List.drop_zero,List.drop_succ_cons,List.take_succ_cons,List.take_zero] at h0
  obtain ⟨d0,e0⟩:=JO Tryz.underlying2 H enc W _ _ _ h0
  unfold nR at e0; simp only [List.cons.injEq,and_true] at e0
  obtain ⟨y1,h1⟩ :∃y,DataW.trod enc Tryz.prog W 0 (fun _=>true) true n 2 (([a0,a1,a2,a3].drop 1).take (Tryz.prog.cellsOf 2))=some y:=hf 1 _ rfl
  have k1:Tryz.prog.cellsOf 2=1:=by kernel_rfl
  rw [k1] at h1; simp only [List.drop_zero,List.drop_succ_cons,List.take_succ_cons,List.take_zero] at h1
  obtain ⟨d1,e1⟩:=JO Tryz.underlying2 H enc W _ _ _ h1
  unfold nR at e1; simp only [List.cons.injEq,and_true] at e1
  obtain ⟨y2,h2⟩ :∃y,DataW.trod enc Tryz.prog W 0 (fun _=>true) true n 25 (([a0,a1,a2,a3].drop 2).take (Tryz.prog.cellsOf 25))=some y:=hf 2 _ rfl
  have k2:Tryz.prog.cellsOf 25=1:=by kernel_rfl
  rw [k2] at h2; simp only [List.drop_zero,List.drop_succ_cons,List.take_succ_cons,List.take_zero] at h2
  obtain ⟨d2,A2,n2,c2,e2,g2,r2⟩:=GH Tryz.underlying25 (by kernel_rfl) (by decide) aG (JO Tryz.underlying2) H enc W _ _ _ h2
  simp only [List.cons.injEq,and_true] at e2
  obtain ⟨y3,h3⟩ :∃y,DataW.trod enc Tryz.prog W 0 (fun _=>true) true n 22 (([a0,a1,a2,a3].drop 3).take (Tryz.prog.cellsOf 22))=some y:=hf 3 _ rfl
  have k3:Tryz.prog.cellsOf 22=1:=by kernel_rfl
  rw [k3] at h3; simp only [List.drop_zero,List.drop_succ_cons,List.take_succ_cons,List.take_zero] at h3
  obtain ⟨d3,A3,n3,c3,e3,g3,r3⟩:=apn Tryz.underlying22 (by kernel_rfl) (by decide) aK ih H enc W n _ _ (by omega) h3
  simp only [List.cons.injEq,and_true] at e3
  subst e0
  subst e1
  subst e2
  subst e3
  exact ⟨⟨d0,d1,d2,d3⟩,dR ⟨A2,n2,c2,A3,n3,c3,rfl,⟨g2,r2⟩,⟨g3,r3⟩⟩⟩
theorem ajK:Opens Tryz.prog 27 bf:=avE asv
theorem avF:Opens Tryz.prog 24 iI:=fun H enc W fuel cs x h=>by
 obtain ⟨hl,m,hf⟩:=Lp Tryz.underlying24 h
 replace hl:cs.length=1:=hl.trans (by kernel_rfl)
 obtain ⟨a0,rfl⟩:=aV9 hl
 obtain ⟨y0,h0⟩ :∃y,DataW.trod enc Tryz.prog W 0 (fun _=>true) true m 22 (([a0].drop 0).take (Tryz.prog.cellsOf 22))=some y:=hf 0 _ rfl
 have k0:Tryz.prog.cellsOf 22=1:=by kernel_rfl
 rw [k0] at h0; simp only [List.drop_zero,List.drop_succ_cons,List.take_succ_cons,List.take_zero] at h0
 obtain ⟨d0,A0,n0,c0,e0,g0,r0⟩:=GH Tryz.underlying22 (by kernel_rfl) (by decide) aK ajK H enc W _ _ _ h0
 simp only [List.cons.injEq,and_true] at e0
 subst e0
 exact ⟨⟨d0⟩,A0,n0,c0,rfl,⟨g0,r0⟩⟩
theorem Si:Opens Tryz.prog 29 dM:=fun H enc W fuel cs x h=>by
 obtain ⟨hl,m,hf⟩:=Lp Tryz.underlying29 h
 replace hl:cs.length=5:=hl.trans (by kernel_rfl)
 obtain ⟨a0,a1,a2,a3,a4,rfl⟩:=aWa hl
 obtain ⟨y0,h0⟩ :∃y,DataW.trod enc Tryz.prog W 0 (fun _=>true) true m 27 (([a0,a1,a2,a3,a4].drop 0).take (Tryz.prog.cellsOf 27))=some y:=hf 0 _ rfl
 have k0:Tryz.prog.cellsOf 27=4:=by kernel_rfl
 rw [k0] at h0; simp only [List.drop_zero,List.drop_succ_cons,List.take_succ_cons,List.take_zero] at h0
 obtain ⟨d0,R0⟩:=ajK H enc W _ _ _ h0
 obtain ⟨A0a,n0a,c0a,A0b,n0b,c0b,e0,g0a,g0b⟩:=bG R0
 simp only [List.cons.injEq,and_true] at e0
 obtain ⟨y1,h1⟩ :∃y,DataW.trod enc Tryz.prog W 0 (fun _=>true) true m 25 (([a0,a1,a2,a3,a4].drop 4).take (Tryz.prog.cellsOf 25))=some y:=hf 1 _ rfl
 have k1:Tryz.prog.cellsOf 25=1:=by kernel_rfl
 rw [k1] at h1; simp only [List.drop_zero,List.drop_succ_cons,List.take_succ_cons,List.take_zero] at h1
 obtain ⟨d1,A1,n1,c1,e1,g1,r1⟩:=GH Tryz.underlying25 (by kernel_rfl) (by decide) aG (JO Tryz.underlying2) H enc W _ _ _ h1
 simp only [List.cons.injEq,and_true] at e1
 obtain ⟨rfl,rfl,rfl,rfl⟩:=e0
 subst e1
 exact ⟨⟨d0,d1⟩,A0a,n0a,c0a,A0b,n0b,c0b,A1,n1,c1,rfl,g0a,g0b,⟨g1,r1⟩⟩
theorem asw:Opens Tryz.prog 90 nS:=fun H enc W fuel cs x h=>by
 obtain ⟨hl,m,hf⟩:=Lp Tryz.underlying90 h
 replace hl:cs.length=8:=hl.trans (by kernel_rfl)
 obtain ⟨a0,a1,a2,a3,a4,a5,a6,a7,rfl⟩:=aWd hl
 obtain ⟨y0,h0⟩ :∃y,DataW.trod enc Tryz.prog W 0 (fun _=>true) true m 2 (([a0,a1,a2,a3,a4,a5,a6,a7].drop 0).take (Tryz.prog.cellsOf 2))=some y:=hf 0 _ rfl
 have k0:Tryz.prog.cellsOf 2=1:=by kernel_rfl
 rw [k0] at h0; simp only [List.drop_zero,List.drop_succ_cons,List.take_succ_cons,List.take_zero] at h0
 obtain ⟨d0,e0⟩:=JO Tryz.underlying2 H enc W _ _ _ h0
 unfold nR at e0; simp only [List.cons.injEq,and_true] at e0
 obtain ⟨y1,h1⟩ :∃y,DataW.trod enc Tryz.prog W 0 (fun _=>true) true m 2 (([a0,a1,a2,a3,a4,a5,a6,a7].drop 1).take (Tryz.prog.cellsOf 2))=some y:=hf 1 _ rfl
 have k1:Tryz.prog.cellsOf 2=1:=by kernel_rfl
 rw [k1] at h1; simp only [List.drop_zero,List.drop_succ_cons,List.take_succ_cons,List.take_zero] at h1
 obtain ⟨d1,e1⟩:=JO Tryz.underlying2 H enc W _ _ _ h1
 unfold nR at e1; simp only [List.cons.injEq,and_true] at e1
 obtain ⟨y2,h2⟩ :∃y,DataW.trod enc Tryz.prog W 0 (fun _=>true) true m 25 (([a0,a1,a2,a3,a4,a5,a6,a7].drop 2).take (Tryz.prog.cellsOf 25))=some y:=hf 2 _ rfl
 have k2:Tryz.prog.cellsOf 25=1:=by kernel_rfl
 rw [k2] at h2; simp only [List.drop_zero,List.drop_succ_cons,List.take_succ_cons,List.take_zero] at h2
 obtain ⟨d2,A2,n2,c2,e2,g2,r2⟩:=GH Tryz.underlying25 (by kernel_rfl) (by decide) aG (JO Tryz.underlying2) H enc W _ _ _ h2
 simp only [List.cons.injEq,and_true] at e2
 obtain ⟨y3,h3⟩ :∃y,DataW.trod enc Tryz.prog W 0 (fun _=>true) true m 29 (([a0,a1,a2,a3,a4,a5,a6,a7].drop 3).take (Tryz.prog.cellsOf 29))=some y:=hf 3 _ rfl
 have k3:Tryz.prog.cellsOf 29=5:=by kernel_rfl
 rw [k3] at h3; simp only [List.drop_zero,List.drop_succ_cons,List.take_succ_cons,List.take_zero] at h3
 obtain ⟨d3,A3a,n3a,c3a,A3b,n3b,c3b,A3c,n3c,c3c,e3,g3a,g3b,g3c⟩:=Si H enc W _ _ _ h3
 simp only [List.cons.injEq,and_true] at e3
 subst e0
 subst e1
 subst e2
 obtain ⟨rfl,rfl,rfl,rfl,rfl⟩:=e3
 exact ⟨⟨d0,d1,d2,d3⟩,A2,n2,c2,A3a,n3a,c3a,A3b,n3b,c3b,A3c,n3c,c3c,rfl,⟨g2,r2⟩,g3a,g3b,g3c⟩
theorem asx:Opens Tryz.prog 93 yQ:=fun H enc W fuel cs x h=>by
 obtain ⟨hl,m,hf⟩:=Lp Tryz.underlying93 h
 replace hl:cs.length=6:=hl.trans (by kernel_rfl)
 obtain ⟨a0,a1,a2,a3,a4,a5,rfl⟩:=aWb hl
 obtain ⟨y0,h0⟩ :∃y,DataW.trod enc Tryz.prog W 0 (fun _=>true) true m 4 (([a0,a1,a2,a3,a4,a5].drop 0).take (Tryz.prog.cellsOf 4))=some y:=hf 0 _ rfl
 have k0:Tryz.prog.cellsOf 4=1:=by kernel_rfl
 rw [k0] at h0; simp only [List.drop_zero,List.drop_succ_cons,List.take_succ_cons,List.take_zero] at h0
 obtain ⟨d0,e0⟩:=avC Tryz.underlying4 H enc W _ _ _ h0
 unfold asH at e0; simp only [List.cons.injEq,and_true] at e0
 obtain ⟨y1,h1⟩ :∃y,DataW.trod enc Tryz.prog W 0 (fun _=>true) true m 29 (([a0,a1,a2,a3,a4,a5].drop 1).take (Tryz.prog.cellsOf 29))=some y:=hf 1 _ rfl
 have k1:Tryz.prog.cellsOf 29=5:=by kernel_rfl
 rw [k1] at h1; simp only [List.drop_zero,List.drop_succ_cons,List.take_succ_cons,List.take_zero] at h1
 obtain ⟨d1,A1a,n1a,c1a,A1b,n1b,c1b,A1c,n1c,c1c,e1,g1a,g1b,g1c⟩:=Si H enc W _ _ _ h1
 simp only [List.cons.injEq,and_true] at e1
 subst e0
 obtain ⟨rfl,rfl,rfl,rfl,rfl⟩:=e1
 exact ⟨⟨d0,d1⟩,A1a,n1a,c1a,A1b,n1b,c1b,A1c,n1c,c1c,rfl,g1a,g1b,g1c⟩
theorem avG:Opens Tryz.prog 33 jQ:=fun H enc W fuel cs x h=>by
 obtain ⟨hl,m,hf⟩:=Lp Tryz.underlying33 h
 replace hl:cs.length=7:=hl.trans (by kernel_rfl)
 obtain ⟨a0,a1,a2,a3,a4,a5,a6,rfl⟩:=aWc hl
 obtain ⟨y0,h0⟩ :∃y,DataW.trod enc Tryz.prog W 0 (fun _=>true) true m 29 (([a0,a1,a2,a3,a4,a5,a6].drop 0).take (Tryz.prog.cellsOf 29))=some y:=hf 0 _ rfl
 have k0:Tryz.prog.cellsOf 29=5:=by kernel_rfl
 rw [k0] at h0; simp only [List.drop_zero,List.drop_succ_cons,List.take_succ_cons,List.take_zero] at h0
 obtain ⟨d0,A0a,n0a,c0a,A0b,n0b,c0b,A0c,n0c,c0c,e0,g0a,g0b,g0c⟩:=Si H enc W _ _ _ h0
 simp only [List.cons.injEq,and_true] at e0
 obtain ⟨y1,h1⟩ :∃y,DataW.trod enc Tryz.prog W 0 (fun _=>true) true m 30 (([a0,a1,a2,a3,a4,a5,a6].drop 5).take (Tryz.prog.cellsOf 30))=some y:=hf 1 _ rfl
 have k1:Tryz.prog.cellsOf 30=1:=by kernel_rfl
 rw [k1] at h1; simp only [List.drop_zero,List.drop_succ_cons,List.take_succ_cons,List.take_zero] at h1
 obtain ⟨d1,A1,n1,c1,e1,g1,r1⟩:=GH Tryz.underlying30 (by kernel_rfl) (by decide) kF asw H enc W _ _ _ h1
 simp only [List.cons.injEq,and_true] at e1
 obtain ⟨y2,h2⟩ :∃y,DataW.trod enc Tryz.prog W 0 (fun _=>true) true m 31 (([a0,a1,a2,a3,a4,a5,a6].drop 6).take (Tryz.prog.cellsOf 31))=some y:=hf 2 _ rfl
 have k2:Tryz.prog.cellsOf 31=1:=by kernel_rfl
 rw [k2] at h2; simp only [List.drop_zero,List.drop_succ_cons,List.take_succ_cons,List.take_zero] at h2
 obtain ⟨d2,A2,n2,c2,e2,g2,r2⟩:=GH Tryz.underlying31 (by kernel_rfl) (by decide) nN asx H enc W _ _ _ h2
 simp only [List.cons.injEq,and_true] at e2
 obtain ⟨rfl,rfl,rfl,rfl,rfl⟩:=e0
 subst e1
 subst e2
 exact ⟨⟨d0,d1,d2⟩,A0a,n0a,c0a,A0b,n0b,c0b,A0c,n0c,c0c,A1,n1,c1,A2,n2,c2,rfl,g0a,g0b,g0c,⟨g1,r1⟩,⟨g2,r2⟩⟩
end
section
open Go.RowKit
theorem aWe {e:TypeId} {w:World} {lo:Nat} {v:Value} {d:dY} {bs:List Nat} (h:aH e dI 4 w lo v d.defs bs):OwT ag2 w (.agg #[v]) d lo w.heap.size:=by
 obtain ⟨A,n,c,l,rfl,h1,h2,h3,r⟩:=h.Ua aC
 exact ⟨[.slice A n c],l,rfl,⟨A,n,c,l,rfl,⟨h1,r⟩,rfl⟩,h2,fun b hb=>⟨h.jB b (h3 b hb),h.hi b (h3 b hb)⟩⟩
theorem aFJ {e0 e1 e3 e4:TypeId} {w:World} {lo:Nat} {v0 v1 v2 v3 v4:Value} {d:aN} {Ag Qb Qc:List Nat} (h0:aA e0 encI 1 w lo v0 d.control.term.data) (h1:aH e1 dI 4 w lo v1 d.control.term.kids Ag) (h2:aA e0 encI 1 w lo v2 d.control.env) (h3:aH e3 dZ 8 w lo v3 d.stack Qb) (h4:aH e4 fD 6 w lo v4 d.heap Qc)
  (a1:Ap (fb v0) Ag) (a2:Dj v0 v2) (a3:Ap Ag (fb v2)) (a4:Ap (fb v0) Qb) (a5:Ap Ag Qb) (a6:Ap (fb v2) Qb) (a7:Ap (fb v0) Qc) (a8:Ap Ag Qc) (a9:Ap (fb v2) Qc) (a10:Ap Qb Qc):OwT Ji w (.agg #[.int .i64 d.control.term.kind,.int .i64 d.control.term.value,v0,v1,v2,v3,v4]) d lo w.heap.size:=by
 obtain ⟨A0,c0,hv0⟩:=aA.form h0
 subst hv0
 obtain ⟨l0,g0,n0,s0,r0⟩:=aA.EN fI h0
 obtain ⟨A1,k1,c1,l1,rfl,g1,n1,s1,r1⟩:=h1.Ua aC
 obtain ⟨A2,c2,hv2⟩:=aA.form h2
 subst hv2
 obtain ⟨l2,g2,n2,s2,r2⟩:=aA.EN fI h2
 obtain ⟨A3,k3,c3,l3,rfl,g3,n3,s3,r3⟩:=h3.Ua aQ
 obtain ⟨A4,k4,c4,l4,rfl,g4,n4,s4,r4⟩:=h4.Ua aS
 have m01:=ql n0 n1 s0 s1 a1
 have t01:=yO s0 s1
 have m02:=ql m01 n2 t01 s2 (Ap.append (Dj.ap a2) a3)
 have t02:=yO t01 s2
 have m03:=ql m02 n3 t02 s3 (Ap.append (Ap.append a4 a5) a6)
 have t03:=yO t02 s3
 have m04:=ql m03 n4 t03 s4 (Ap.append (Ap.append (Ap.append a7 a8) a9) a10)
 refine ⟨_,l0 ++ l1 ++ l2 ++ l3 ++ l4,rfl,⟨_,_,_,_,_,_,_,_,_,_,_,_,_,_,_,l0,l1,l2,l3,l4,rfl,⟨g0,r0⟩,⟨g1,r1⟩,⟨g2,r2⟩,⟨g3,r3⟩,⟨g4,r4⟩,rfl⟩,m04,fun b hb=>?_⟩
 simp only [List.mem_append] at hb
 rcases hb with (((hb|hb)|hb)|hb)|hb
 ·exact h0.lt b (yE.1 (s0 b hb))
 ·exact ⟨h1.jB b (s1 b hb),h1.hi b (s1 b hb)⟩
 ·exact h2.lt b (yE.1 (s2 b hb))
 ·exact ⟨h3.jB b (s3 b hb),h3.hi b (s3 b hb)⟩
 ·exact ⟨h4.jB b (s4 b hb),h4.hi b (s4 b hb)⟩
theorem ajL (v:Value) (x:dY) (left:Int) (w:World) {B:Nat} (h:RdT iI w B v x) (hB:B≤w.heap.size) (h0:0≤left) (h1:left≤1048576) :
  Calls Tryz.prog 4 #[v,.int .i64 left] w fun e w'=>e=.returned (.int .i64 (TV left (Bz x)))∧Below w.heap.size w w':=
 af6 x left _ (aCg x left (by obtain ⟨cs,_,hR⟩:=h; exact aty hR) h0 h1) v w (h.more jP hB)
theorem asy (v:Value) (x:aN) (left:Int) (w:World) {B:Nat} (h:RdT jQ w B v x) (hB:B≤w.heap.size) (h0:0≤left) (h1:left≤1048576) :
  Calls Tryz.prog 5 #[v,.int .i64 left] w fun e w'=>e=.returned (.int .i64 (TV left (qo x)))∧Below w.heap.size w w':=
 af7 x left _ (aCh x left (by obtain ⟨cs,_,hR⟩:=h; exact atz hR) h0 h1) v w (h.more fP hB)
theorem TT (v:Value) (x:dY) (w:World) {B:Nat} (h:RdT iI w B v x) (hB:B≤w.heap.size) (hs:Bz x≤1048576) :
  Calls Tryz.prog 7 #[v] w fun e w'=>aPC (fun v'=>OwT ag2 w' v' x w.heap.size w'.heap.size) e∧Below w.heap.size w w':=
 (agb x _ (aCk x hs) v w (h.more jP hB)).mono fun e w' ⟨⟨v0,bs0,he,h1⟩,hb⟩=>⟨⟨_,he,aWe h1⟩,hb⟩
theorem Lr (v:Value) (x:aN) (w:World) {B:Nat} (h:RdT jQ w B v x) (hB:B≤w.heap.size) (hs:qo x≤1048576) :
  Calls Tryz.prog 8 #[v] w fun e w'=>aPC (fun v'=>OwT Ji w' v' x w.heap.size w'.heap.size) e∧Below w.heap.size w w':=
 (agc x _ (aCl x hs) v w (h.more fP hB)).mono fun e w' ⟨⟨v0,v1,Ag,v2,v3,Qb,v4,Qc,he,h0,h1,h2,h3,h4,a1,a2,a3,a4,a5,a6,a7,a8,a9,a10⟩,hb⟩=>⟨⟨_,he,aFJ h0 h1 h2 h3 h4 a1 a2 a3 a4 a5 a6 a7 a8 a9 a10⟩,hb⟩
theorem aFK (v u:Value) (x y:dY) (w:World) {B B':Nat} (h:RdT iI w B v x) (h':RdT iI w B' u y) (hB:B≤w.heap.size) (hB':B'≤w.heap.size) :
  Calls Tryz.prog 11 #[v,u] w fun e w'=>e=.returned (.bool (decide (x=y)))∧Below w.heap.size w w':=
 af9 x y _ (aCi x y) v u w (h.more jP hB) (h'.more jP hB')
theorem adh (v u:Value) (x y:aN) (w:World) {B B':Nat} (h:RdT jQ w B v x) (h':RdT jQ w B' u y) (hB:B≤w.heap.size) (hB':B'≤w.heap.size) :
  Calls Tryz.prog 10 #[v,u] w fun e w'=>e=.returned (.bool (decide (x=y)))∧Below w.heap.size w w':=
 af_ x y _ (aCj x y) v u w (h.more fP hB) (h'.more fP hB')
set_option maxHeartbeats 4000000 in
theorem avH (v:Value) (x:dY) (w:World) (k:Int) (lo hi m:Nat) (em:m=k.toNat+bJ fJ x.defs) (h:OwT ag2 w v x lo hi) (hh:hi≤w.heap.size) (hs:Bz x≤1048576) (h0:0≤k) (hk:k≤1048576) :
  Calls Tryz.prog 12 #[v,.int .i64 k] w fun e w'=>e=.returned (.int .i64 (m:Int))∧∃wb,Below w.heap.size w wb∧wb.heap.size=w'.heap.size∧Qy lo hi wb w':=by
 subst em
 obtain ⟨cs,bs,rfl,⟨A1,n1,c1,b1,rfl,⟨h1,r1⟩,rfl⟩,hnd,hb⟩:=h
 obtain ⟨k0,rfl⟩:=Int.eq_ofNat_of_zero_le h0
 have hA :∀o1,Below w.heap.size w (w.alloc o1):=fun o1=>(Below.refl _ _).alloc (Nat.le_refl _) _
 have HK:=Lib.hid (show∀o1,iV dI 4 (w.alloc o1) A1 n1 x.defs bs from fun o1=>h1.keep aC (fun j hj=>(hA o1).block j (by have:=hb j hj; omega)))
 have HN:=Lib.hid hnd
 have HB:=Lib.hid hb
 have hcl:=S9 x.defs
 have hsz:Bz x=Ea x.defs:=rfl
 clear h1 hb hnd
 go_enter Tryz.func12,Tryz.ntmps12
 go_wp2_with fail
 refine (P8 _ A1 n1 c1 k0 x.defs bs _ (Nat.le_refl _) (HK.out _) HN.out (by omega) (by omega)).mono ?_
 rintro e w1 ⟨rfl,_,o1⟩
 have O1:=Lib.hid o1
 clear o1
 go_wp2_with fail
 go_ret
 exact ⟨rfl,_,hA _,O1.out.size.symm,O1.out.in_ HB.out⟩
theorem aFL {x:dY} (h:Bz x≤1048576):bJ fJ x.defs≤2097152:=by
 have hcl:=S9 x.defs
 have hsz:Bz x=Ea x.defs:=rfl
 omega
end
section
open Go.RowKit
theorem adi :∀(dJ k:Nat) (xs:List ak),SizeOf.sizeOf (oM k xs)≤dJ→k+bJ fJ xs≤4294967296→nC dJ (oM k xs) (k:Int)=some ((k+bJ fJ xs:Nat):Int)
 |0,k,xs,h,_=>by have:=abK (oM k xs); omega
 |dJ+1,k,xs,hg,hb=>by
  have ih:=adi dJ
  have e:nC (dJ+1) (oM k xs) (k:Int)=xq (nC dJ) (uX dJ) (oM k xs) (k:Int):=rfl
  rw [e]
  unfold xq
  have hl:(oM k xs).length=xs.length:=JQ _ _
  have key:=axy (L:=fun g (s:Int × Int)=>jL (nC dJ) (oM k xs) qY g s.1 s.2) (st:=fun i=>(((k+bJ fJ (xs.take i):Nat):Int),(i:Int))) (n:=xs.length) (r:=some ((k+bJ fJ xs:Nat):Int))
   (fun g i hi=>by
    have hx0:=List.getElem?_eq_getElem hi
    have hx:(oM k xs)[i]? = some (mkC (k+bJ fJ (xs.take i)) xs[i]):=agx hx0
    have hm0:=List.sizeOf_lt_of_mem (List.mem_of_getElem? hx)
    have hct:=DZ (cnt:=fJ) hx0
    have hcx:fJ xs[i] = 2+xs[i].data.length+bJ fJ xs[i].kids:=anp _
    have hcm:=EY (cnt:=fJ) xs (i+1)
    rw [hct,← Nat.add_assoc]
    have hm:k+bJ fJ (xs.take i)+fJ xs[i]≤4294967296:=by omega
    clear hct hcm hx0
    generalize k+bJ fJ (xs.take i)=m at *
    generalize xs[i] = x at *
    rw [anq] at hx hm0
    have hkz:=Xh (⟨(m:Int),((m+1:Nat):Int),marks (m+2) x.data.length,mkL mkC fJ (m+2+x.data.length) x.kids⟩:ak)
    have e1:=P7 (m+2) x.data.length (by omega)
    have e2:=ih (m+2+x.data.length) x.kids (by show SizeOf.sizeOf (mkL mkC fJ _ _)≤_; simp only at hkz; omega) (by omega)
    unfold oM at e2
    have hx':fC (oM k xs) (i:Int)=some _:=gG hx
    simp -implicitDefEqProofs only [jL,vJ,hl,LD hi,cond_true,hx',Option.bind_some]
    rw [show ((m:Int) != (m:Int))=false by simp,cond_false,yA (by omega),Option.bind_some,show (((m+1:Nat):Int) != (m:Int)+1)=false by simp,cond_false,yA (by omega),Option.bind_some,
     show (m:Int)+1+1=((m+2:Nat):Int) by omega,e1,Option.bind_some,
     show decide (((m+2+x.data.length:Nat):Int) < 0)=false by simp; omega,cond_false,e2,Option.bind_some,show decide (((m+2+x.data.length+bJ fJ x.kids:Nat):Int) < 0)=false by simp; omega,cond_false]
    have e3:((m+2+x.data.length+bJ fJ x.kids:Nat):Int)=(((m:Nat)+fJ x:Nat):Int):=by omega
    rw [e3]; simp only [Int.natCast_add,Int.cast_ofNat_Int,Int.add_assoc] <;> rfl)
   (fun g=>by
    simp -implicitDefEqProofs only [jL,vJ,hl,LG,cond_false,qY,List.take_length]) (xs.length+1) (Nat.lt_succ_self _)
  rw [hl]
  simpa [bJ] using key
theorem azW (dJ k:Nat) (kd vl:Int) (n:Nat) (ks:List ak) (hg:SizeOf.sizeOf (⟨kd,vl,marks k n,oM (k+n) ks⟩:ak)≤dJ) (hb:k+n+bJ fJ ks≤4294967296):uX dJ ⟨kd,vl,marks k n,oM (k+n) ks⟩ (k:Int)=some ((k+n+bJ fJ ks:Nat):Int):=by
 obtain ⟨dJ,rfl⟩ :∃g',dJ=g'+1:=⟨dJ - 1,by have:=ak.aZi (⟨kd,vl,marks k n,oM (k+n) ks⟩:ak); omega⟩
 have e:uX (dJ+1) ⟨kd,vl,marks k n,oM (k+n) ks⟩ (k:Int)=zA (nC dJ) (uX dJ) ⟨kd,vl,marks k n,oM (k+n) ks⟩ (k:Int):=rfl
 have hk:=Xh (⟨kd,vl,marks k n,oM (k+n) ks⟩:ak)
 rw [e]
 unfold zA
 simp only at hk ⊢
 rw [P7 k n (by omega),Option.bind_some,show decide (((k+n:Nat):Int) < 0)=false by simp; omega,cond_false,adi dJ (k+n) ks (by omega) (by omega),Option.bind_some,show decide (((k+n+bJ fJ ks:Nat):Int) < 0)=false by simp; omega,cond_false]
theorem aFM (k:Nat) (xs:List aO) (hb:k+bJ cntF xs≤4294967296):zB (G7 k xs) (k:Int)=some ((k+bJ cntF xs:Nat):Int):=by
 unfold zB
 have hl:(G7 k xs).length=xs.length:=JQ _ _
 have key:=axy (L:=fun g (s:Int × Int)=>jo (G7 k xs) o_ g s.1 s.2) (st:=fun i=>(((k+bJ cntF (xs.take i):Nat):Int),(i:Int))) (n:=xs.length) (r:=some ((k+bJ cntF xs:Nat):Int))
  (fun g i hi=>by
   have hx0:=List.getElem?_eq_getElem hi
   have hx:(G7 k xs)[i]? = some (mkF (k+bJ cntF (xs.take i)) xs[i]):=agx hx0
   have hct:=DZ (cnt:=cntF) hx0
   have hcx:cntF xs[i] = 4+xs[i].data.length+xs[i].closure.term.data.length+bJ fJ xs[i].closure.term.kids+xs[i].closure.env.length:=rfl
   have hcm:=EY (cnt:=cntF) xs (i+1)
   rw [hct,← Nat.add_assoc]
   have hm:k+bJ cntF (xs.take i)+cntF xs[i]≤4294967296:=by omega
   clear hct hcm hx0
   generalize k+bJ cntF (xs.take i)=m at *
   generalize xs[i] = x at *
   have e1:=P7 (m+2) x.data.length (by omega)
   have e2:=P7 (m+4+x.data.length) x.closure.term.data.length (by omega)
   have e3:=adi _ (m+4+x.data.length+x.closure.term.data.length) x.closure.term.kids (Nat.le_refl _) (by omega)
   have e4:=P7 (m+4+x.data.length+x.closure.term.data.length+bJ fJ x.closure.term.kids) x.closure.env.length (by omega)
   have hx':fC (G7 k xs) (i:Int)=some _:=gG hx
   simp -implicitDefEqProofs only [jo,t_,hl,LD hi,cond_true,hx',Option.bind_some,mkF]
   rw [show ((m:Int) != (m:Int))=false by simp,cond_false,yA (by omega),Option.bind_some,show (((m+1:Nat):Int) != (m:Int)+1)=false by simp,cond_false,yA (by omega),Option.bind_some,
    show (m:Int)+1+1=((m+2:Nat):Int) by omega,e1,Option.bind_some,show decide (((m+2+x.data.length:Nat):Int) < 0)=false by simp; omega,cond_false,
    show (((m+2+x.data.length:Nat):Int) != ((m+2+x.data.length:Nat):Int))=false by simp,cond_false,yA (by omega),Option.bind_some,show (((m+2+x.data.length+1:Nat):Int) != ((m+2+x.data.length:Nat):Int)+1)=false by simp,cond_false,yA (by omega),Option.bind_some,
    show ((m+2+x.data.length:Nat):Int)+1+1=((m+4+x.data.length:Nat):Int) by omega,e2,Option.bind_some,show decide (((m+4+x.data.length+x.closure.term.data.length:Nat):Int) < 0)=false by simp; omega,cond_false,
    e3,Option.bind_some,show decide (((m+4+x.data.length+x.closure.term.data.length+bJ fJ x.closure.term.kids:Nat):Int) < 0)=false by simp; omega,cond_false,
    e4,Option.bind_some,show decide (((m+4+x.data.length+x.closure.term.data.length+bJ fJ x.closure.term.kids+x.closure.env.length:Nat):Int) < 0)=false by simp; omega,cond_false]
   have e5:((m+4+x.data.length+x.closure.term.data.length+bJ fJ x.closure.term.kids+x.closure.env.length:Nat):Int)=(((m:Nat)+cntF x:Nat):Int):=by omega
   rw [e5]; simp only [Int.natCast_add,Int.cast_ofNat_Int,Int.add_assoc] <;> rfl)
  (fun g=>by
   simp -implicitDefEqProofs only [jo,t_,hl,LG,cond_false,o_,List.take_length]) (xs.length+1) (Nat.lt_succ_self _)
 rw [hl]
 simpa [bJ] using key
theorem aFN (k:Nat) (xs:List bD) (hb:k+bJ mg xs≤4294967296):zC (G8 k xs) (k:Int)=some ((k+bJ mg xs:Nat):Int):=by
 unfold zC
 have hl:(G8 k xs).length=xs.length:=JQ _ _
 have key:=axy (L:=fun g (s:Int × Int)=>jq (G8 k xs) pq g s.1 s.2) (st:=fun i=>(((k+bJ mg (xs.take i):Nat):Int),(i:Int))) (n:=xs.length) (r:=some ((k+bJ mg xs:Nat):Int))
  (fun g i hi=>by
   have hx0:=List.getElem?_eq_getElem hi
   have hx:(G8 k xs)[i]? = some (mkT (k+bJ mg (xs.take i)) xs[i]):=agx hx0
   have hct:=DZ (cnt:=mg) hx0
   have hcx:mg xs[i] = 3+xs[i].closure.term.data.length+bJ fJ xs[i].closure.term.kids+xs[i].closure.env.length:=rfl
   have hcm:=EY (cnt:=mg) xs (i+1)
   rw [hct,← Nat.add_assoc]
   have hm:k+bJ mg (xs.take i)+mg xs[i]≤4294967296:=by omega
   clear hct hcm hx0
   generalize k+bJ mg (xs.take i)=m at *
   generalize xs[i] = x at *
   have e2:=P7 (m+3) x.closure.term.data.length (by omega)
   have e3:=adi _ (m+3+x.closure.term.data.length) x.closure.term.kids (Nat.le_refl _) (by omega)
   have e4:=P7 (m+3+x.closure.term.data.length+bJ fJ x.closure.term.kids) x.closure.env.length (by omega)
   have hx':fC (G8 k xs) (i:Int)=some _:=gG hx
   have eb:(mbT m != ((m:Int).tmod 3==0))=false:=by
    unfold mbT
    rw [Int.tmod_eq_emod_of_nonneg (by omega)]
    simp
   simp -implicitDefEqProofs only [jq,uf,hl,LD hi,cond_true,hx',Option.bind_some,mkT]
   rw [eb,cond_false,yA (by omega),Option.bind_some,show (((m+1:Nat):Int) != (m:Int)+1)=false by simp,cond_false,yA (by omega),Option.bind_some,show (((m+2:Nat):Int) != (m:Int)+1+1)=false by simp; omega,cond_false,yA (by omega),Option.bind_some,
    show (m:Int)+1+1+1=((m+3:Nat):Int) by omega,e2,Option.bind_some,show decide (((m+3+x.closure.term.data.length:Nat):Int) < 0)=false by simp; omega,cond_false,
    e3,Option.bind_some,show decide (((m+3+x.closure.term.data.length+bJ fJ x.closure.term.kids:Nat):Int) < 0)=false by simp; omega,cond_false,
    e4,Option.bind_some,show decide (((m+3+x.closure.term.data.length+bJ fJ x.closure.term.kids+x.closure.env.length:Nat):Int) < 0)=false by simp; omega,cond_false]
   have e5:((m+3+x.closure.term.data.length+bJ fJ x.closure.term.kids+x.closure.env.length:Nat):Int)=(((m:Nat)+mg x:Nat):Int):=by omega
   rw [e5]; simp only [Int.natCast_add,Int.cast_ofNat_Int,Int.add_assoc] <;> rfl)
  (fun g=>by
   simp -implicitDefEqProofs only [jq,uf,hl,LG,cond_false,pq,List.take_length]) (xs.length+1) (Nat.lt_succ_self _)
 rw [hl]
 simpa [bJ] using key
theorem aIz (k:Nat) (x:aN) (hb:k+ahI x≤4294967296):E8 (mkNe k x) (k:Int)=some ((k+ahI x:Nat):Int):=by
 unfold ahI at hb ⊢
 unfold E8 BD mkNe
 simp only
 rw [azW _ k _ _ _ _ (Nat.le_refl _) (by omega),Option.bind_some,show decide (((k+x.control.term.data.length+bJ fJ x.control.term.kids:Nat):Int) < 0)=false by simp; omega,cond_false,
  show k+(x.control.term.data.length+bJ fJ x.control.term.kids)=k+x.control.term.data.length+bJ fJ x.control.term.kids by omega,
  P7 (k+x.control.term.data.length+bJ fJ x.control.term.kids) x.control.env.length (by omega),Option.bind_some,show decide (((k+x.control.term.data.length+bJ fJ x.control.term.kids+x.control.env.length:Nat):Int) < 0)=false by simp; omega,cond_false,Option.bind_some,show decide (((k+x.control.term.data.length+bJ fJ x.control.term.kids+x.control.env.length:Nat):Int) < 0)=false by simp; omega,cond_false,
  aFM (k+x.control.term.data.length+bJ fJ x.control.term.kids+x.control.env.length) x.stack (by omega),Option.bind_some,show decide (((k+x.control.term.data.length+bJ fJ x.control.term.kids+x.control.env.length+bJ cntF x.stack:Nat):Int) < 0)=false by simp; omega,cond_false,
  aFN (k+x.control.term.data.length+bJ fJ x.control.term.kids+x.control.env.length+bJ cntF x.stack) x.heap (by omega),Option.bind_some,show decide (((k+x.control.term.data.length+bJ fJ x.control.term.kids+x.control.env.length+bJ cntF x.stack+bJ mg x.heap:Nat):Int) < 0)=false by simp; omega,cond_false]
 congr 1
 omega
theorem aIA {x:aN} (hs:qo x≤1048576):ahI x≤16777216:=by
 have hc1:=S9 x.control.term.kids
 have hc2:=amB x.stack
 have hc3:=amC x.heap
 have hsz:qo x=(rE x.control.term+x.control.env.length)+(zy x.stack+AV x.heap):=rfl
 have hcc:=Gz x.control.term
 unfold ahI
 omega
theorem ajM (v:Value) (x:aN) (w:World) (k:Int) (m:Nat) (em:m=k.toNat+ahI x) {B:Nat} (h:RdT jQ w B v (mkNe k.toNat x)) (hB:B≤w.heap.size) (hs:qo x≤1048576) (h0:0≤k) (hk:k≤1048576) :
  Calls Tryz.prog 14 #[v,.int .i64 k] w fun e w'=>e=.returned (.int .i64 (m:Int))∧Below w.heap.size w w':=by
 subst em
 obtain ⟨k0,rfl⟩:=Int.eq_ofNat_of_zero_le h0
 have:=aIA hs
 exact abO _ _ _ (aIz k0 x (by omega)) v w (h.more fP hB)
theorem avI (v:Value) (x:aN) (w:World) (k:Int) (lo hi:Nat) (m:Nat) (em:m=k.toNat+ahI x) (h:OwT Ji w v x lo hi) (hh:hi≤w.heap.size) (hs:qo x≤1048576) (h0:0≤k) (hk:k≤1048576) :
  Calls Tryz.prog 13 #[v,.int .i64 k] w fun e w'=>e=.returned (.int .i64 (m:Int))∧∃wb,Below w.heap.size w wb∧wb.heap.size=w'.heap.size∧Qy lo hi wb w'∧OwT Ji w' v (mkNe k.toNat x) lo hi:=by
 subst em
 obtain ⟨k0,rfl⟩:=Int.eq_ofNat_of_zero_le h0
 exact ahJ v x w k0 lo hi h hh hs (by omega)
theorem aa7 {α β:Type} {f:α→Nat} {g:β→Nat} {h:α→β} :∀xs:List α,(∀x∈xs,g (h x)=f x)→((xs.map h).map g).sum=(xs.map f).sum
 |[],_=>rfl
 |x :: xs,hx=>by
  rw [List.map_cons,List.map_cons,List.sum_cons,List.map_cons,List.sum_cons,hx x (by simp),aa7 xs (fun y hy=>hx y (by simp [hy]))]
theorem asz :∀(l:List Bool) (hp:List bD),((((l.zip hp).flatMap pick).map yh).sum)≤(hp.map yh).sum
 |[],hp=>by simp
 |b :: bs,[]=>by simp
 |b :: bs,t :: ts=>by
  have:=asz bs ts
  rw [List.zip_cons_cons,List.flatMap_cons,List.map_append,List.sum_append,List.map_cons,List.sum_cons]
  cases b <;> simp [pick] <;> omega
theorem aOU (m:aN) (l:List Bool):qo (aFG m l)≤qo m:=by
 have h1:((m.stack.map (ae7 l)).map Ah).sum=(m.stack.map Ah).sum:=aa7 m.stack (fun x _=>by simp [Ah,g_,ae7])
 have h2:((((l.zip m.heap).flatMap pick).map (azU l)).map yh).sum=(((l.zip m.heap).flatMap pick).map yh).sum:=aa7 _ (fun x _=>by simp [yh,g_,azU])
 have h3:=asz l m.heap
 have h4:=ajH l m.heap
 unfold qo zy AV aFG g_
 simp only [List.length_map]
 rw [h1,h2]
 omega
theorem aFO (b:dY) (m:aN) (hs:qo m≤1048576):qo (dH b m).1≤1048576:=by
 unfold dH
 cases SX b m with
 |false=>simp [qo,g_,zy,AV,rE,E5]
 |true=>exact Nat.le_trans (aOU _ _) hs
theorem Dp (v u:Value) (x:dY) (y:aN) (w:World) {B B':Nat} (h:RdT iI w B v x) (h':RdT jQ w B' u y) (hB:B≤w.heap.size) (hB':B'≤w.heap.size) (hs:Bz x≤1048576) (hs':qo y≤1048576) :
  Calls Tryz.prog 6 #[v,u] w fun e w'=>(∃v',e=.returned (.tuple #[v',.int .i64 (dH x y).2])∧OwT Ji w' v' (dH x y).1 w.heap.size w'.heap.size)∧Below w.heap.size w w':=
 (Yb x y _ (ajI x y (aql hs hs') hs') v u w (h.more jP hB) (h'.more fP hB')).mono fun e w' ⟨⟨v0,v1,Ag,v2,v3,Qb,v4,Qc,he,h0,h1,h2,h3,h4,a1,a2,a3,a4,a5,a6,a7,a8,a9,a10⟩,hb⟩=>⟨⟨_,he,aFJ h0 h1 h2 h3 h4 a1 a2 a3 a4 a5 a6 a7 a8 a9 a10⟩,hb⟩
theorem zY (v u:Value) (x:dY) (y:aN) (w:World) {B B':Nat} (h:RdT iI w B v x) (h':RdT jQ w B' u y) (hB:B≤w.heap.size) (hB':B'≤w.heap.size) (hs:Bz x≤1048576) (hs':qo y≤1048576) :
  Calls Tryz.prog 9 #[v,u] w fun e w'=>(∃v',e=.returned (.tuple #[v',.int .i64 (dH x y).2])∧OwT Ji w' v' (dH x y).1 w.heap.size w'.heap.size)∧Below w.heap.size w w':=
 (Yn x y _ (ajJ x y (aql hs hs') hs') v u w (h.more jP hB) (h'.more fP hB')).mono fun e w' ⟨⟨v0,v1,Ag,v2,v3,Qb,v4,Qc,he,h0,h1,h2,h3,h4,a1,a2,a3,a4,a5,a6,a7,a8,a9,a10⟩,hb⟩=>⟨⟨_,he,aFJ h0 h1 h2 h3 h4 a1 a2 a3 a4 a5 a6 a7 a8 a9 a10⟩,hb⟩
end
end Go.Proofs.YtkfmlehhbanopaaGreat
