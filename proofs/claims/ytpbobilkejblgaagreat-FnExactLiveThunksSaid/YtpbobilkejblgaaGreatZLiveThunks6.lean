/- Lemmas of the proof of LiveThunks, part 6. No condition. -/
import Derived.Test.YtpbobilkejblgaaGreatZLiveThunks5
namespace Go.Proofs.YtpbobilkejblgaaGreat
set_option linter.unusedVariables false
set_option linter.unusedSimpArgs false
section
open Go.RowKit
set_option maxRecDepth 100000
section
variable {w w1 : World} {go gq : Nat} {vo vq : Value} {l : List Bool} {q : List Int} {b : Nat}
theorem MkS.old (M:MkS w w1 go gq vo vq l q) (h:b < w.heap.size):¬ Sx go gq vo vq b:=by
  rintro (e|e|e|e)
  · have:=M.lgo; omega
  · have:=M.lgq; omega
  · have:=(M.ho.lt b e).1; omega
  · have:=(M.hq.lt b e).1; omega
theorem MkS.fresh (M:MkS w w1 go gq vo vq l q) (h:w1.heap.size≤b):¬ Sx go gq vo vq b:=by
  rintro (e|e|e|e)
  · have:=M.bo.lt; omega
  · have:=M.bq.lt; omega
  · have:=(M.ho.lt b e).2; omega
  · have:=(M.hq.lt b e).2; omega
theorem MkS.oldA {R:Rd Int} {n:Nat} {A:Option Addr} {xs:List Int} (M:MkS w w1 go gq vo vq l q) (h:SlAt R 1 w w.heap.size A n xs):0 < n→∀b o,A=some ⟨b,o,none⟩→¬ Sx go gq vo vq b:=fun hn b o e=>by
  obtain ⟨b',o',e',hb⟩:=h.addr hn
  rw [e] at e'
  injection e' with e'
  injection e' with e1
  exact M.old (by rw [e1]; exact hb)
theorem MkS.only_ {k:Nat} {w2:World} (M:MkS w w1 go gq vo vq l q) (ho:Only [k] w1 w2) (hk:¬ Sx go gq vo vq k) (hw:w.heap.size≤k):MkS w w2 go gq vo vq l q:=
  have hne :∀b,b ≠ k→w2.heap[b]? = w1.heap[b]?:=fun b hb=>ho.block b (by simpa using hb)
  ⟨(hne go (fun e => hk (.inl e.symm))).trans M.bo, (hne gq (fun e => hk (.inr (.inl e.symm)))).trans M.bq, OwF.only M.ho ho (fun e => hk (.inr (.inr (.inl e)))), M.hq.same (Nat.le_of_eq ho.size.symm) (fun b hb => hne b (fun e => hk (.inr (.inr (.inr (by rw [← e]; exact hb)))))), M.lgo, M.lgq, M.ne, M.o1, M.o2, M.q1, M.q2, M.dj,
   M.T.trans (ho.below (by intro b hb; simp at hb; subst hb; exact hw))⟩
end
theorem obNe {b k n c:Nat} (h:b ≠ k):(Value.slice (some ⟨b,0,none⟩) n c).ownBlock ≠ some k:=fun e=>h (Option.some.inj e)
/-- What the frames of the stack reach at once. -/
def stM:List DFrame→List Bool→List Int→Option (List Bool × List Int)
  |[],l,q=>some (l,q)
  |x :: xs,l,q=>(bif x.kind==1||x.kind==2 then mkM [x.value] l q else some (l,q)).bind fun s=>(mkM x.closure.env s.1 s.2).bind fun s=>stM xs s.1 s.2
/-- The queue is worked off. -/
def dqM (d0:DNeed):Nat→List Bool→List Int→Option (List Bool)
  |0,_,_=>none
  |_+1,l,[]=>some l
  |g+1,l,a :: q=>(getI d0.heap a).bind fun t=>(mkM t.closure.env l q).bind fun s=>dqM d0 g s.1 s.2
def m_impl_Need_live (gas:Nat) (d0:DNeed):Option (List Bool):=
  (mustP (d0.heap.length≤4294967296)).bind fun _=>(mkM d0.control.env (List.replicate d0.heap.length false) []).bind fun s0=>(stM d0.stack s0.1 s0.2).bind fun s1=>dqM d0 gas s1.1 s1.2
set_option maxHeartbeats 2000000 in
theorem c_m_impl_Need_live (gas:Nat) (d0:DNeed) (r:List Bool) (hm:m_impl_Need_live gas d0=some r) (v0:Value) (w:World) (hv0:Pt needRd w v0 d0) :
    Calls Tryz.prog 64 #[v0] w fun e w'=>(∃(v0:Value),e=.returned (v0)∧OwF 4 encB 1 w' w.heap.size v0 r)∧Below w.heap.size w w':=by
  obtain ⟨ba0,oa0,csa0,rfl,hba0,hRa0,hca0⟩:=hv0
  have hSa0:=hRa0
  obtain ⟨A1,n1,c1,A2,n2,c2,A3,n3,c3,A4,n4,c4,A5,n5,c5,rfl,⟨h1,r1⟩,⟨h2,r2⟩,⟨h3,r3⟩,⟨h4,r4⟩,⟨h5,r5⟩⟩:=hRa0
  have e3:=h3.len; subst e3
  have q3:=len_le r3
  have e4:=h4.len; subst e4
  have q4:=len_le r4
  have e5:=h5.len; subst e5
  have q5:=len_le r5
  have T:=Below.refl w.heap.size w
  unfold m_impl_Need_live at hm
  obtain ⟨_,m6,hm⟩:=bnd hm
  have hk7:=mustP_some m6
  obtain ⟨s0m,hm0,hm⟩:=bnd hm
  obtain ⟨s1m,hm1,hm⟩:=bnd hm
  refine enter 71 Tryz.func64 rfl rfl rfl ?_
  intro f hf
  have s0:f 0=.pointer (some ⟨ba0,oa0,none⟩):=hf 0 _ rfl
  refine wp_seq<|wp_rs rfl<|RQ.y rfl (Y.assign (v:=.slice none 0 0) rfl)<|RQ.nil<|then_n<|wp_seq<|wp_rl rfl<|RL.y rfl (Y.move (v:=.pointer (some ⟨ba0,oa0,none⟩)) s0)<|RL.y rfl (Y.nilCheck rfl)<|RL.y rfl (Y.fieldAddr (off:=6) rfl (by kernel_rfl))<|RL.y rfl (Y.load (v:=.slice A5 d0.heap.length c5) rfl (by kernel_rfl) (eqC (cellT T (hca0 6 _ rfl))))<|RL.y rfl (Y.len (by kernel_rfl) rfl) ?_
  refine RL.make (enc:=encB) (z0:=false) (n:=d0.heap.length) app_bool (by decide) rfl rfl rfl rfl hk7 (fun w8 G9 hb10 szw8=>?_)
  have T:=Tt T hb10
  refine RL.alloc (z:=.slice none 0 0) rfl (by kernel_rfl) (fun w11 B11 hb11 szw11=>?_)
  have G9:=OwF.below G9 hb11
  have T:=Tt T hb11
  refine RL.store (v:=(.slice (some ⟨w.heap.size,0,none⟩) d0.heap.length d0.heap.length)) (cs':=#[(.slice (some ⟨w.heap.size,0,none⟩) d0.heap.length d0.heap.length)]) rfl rfl rfl B11 (by kernel_rfl) (by rfl) (by rfl) (by rfl) (fun w12 B12 ho12=>?_)
  have G9:=OwF.only G9 ho12 (obNe (by omega))
  have T:=T.trans (ho12.below (by intro b hb; simp at hb; subst hb; omega))
  have sz12:=ho12.size
  refine RL.nil<|then_n<|wp_seq<|wp_rl rfl ?_
  refine RL.alloc (z:=.slice none 0 0) rfl (by kernel_rfl) (fun w13 B13 hb13 szw13=>?_)
  have G9:=OwF.below G9 hb13
  have B12:=blkT B12 hb13
  have T:=Tt T hb13
  replace B12:Blk w13 w8.heap.size 122 #[(.slice (some ⟨w.heap.size,0,none⟩) d0.heap.length d0.heap.length)]:=B12
  replace B13:Blk w13 w12.heap.size 60 #[.slice none 0 0]:=B13
  have M:MkS w w13 w8.heap.size w12.heap.size (.slice (some ⟨w.heap.size,0,none⟩) d0.heap.length d0.heap.length) (.slice none 0 0) (List.replicate d0.heap.length false) []:=
   ⟨B12,B13,G9,.inl ⟨rfl,rfl⟩,by omega,by omega,by omega,obNe (by omega),obNe (by omega),(fun e=>by cases e),(fun e=>by cases e),(fun b e=>by cases e),T⟩
  generalize hgo:w8.heap.size=go at M ⊢
  generalize hgq:w12.heap.size=gq at M ⊢
  refine RL.nil<|then_n<|wp_seq<|wp_rs rfl<|RQ.y rfl (Y.makeFunc (vals:=#[.pointer (some ⟨go,0,none⟩),.pointer (some ⟨gq,0,none⟩)]) (am2 rfl rfl))<|RQ.y rfl (Y.assign (v:=.func (.func 124) #[] #[.pointer (some ⟨go,0,none⟩),.pointer (some ⟨gq,0,none⟩)]) rfl)<|RQ.nil<|then_n<|wp_seq<|wp_rl rfl<|RL.y rfl (Y.move (v:=.func (.func 124) #[] #[.pointer (some ⟨go,0,none⟩),.pointer (some ⟨gq,0,none⟩)]) rfl)<|RL.y rfl (Y.move (v:=.pointer (some ⟨ba0,oa0,none⟩)) s0)<|RL.y rfl (Y.nilCheck rfl)<|RL.y rfl (Y.fieldAddr (off:=0) rfl (by kernel_rfl))<|RL.y rfl (Y.fieldAddr (off:=4) rfl (by kernel_rfl))<|RL.y rfl (Y.load (v:=.slice A3 d0.control.env.length c3) rfl (by kernel_rfl) (eqC (cellT T (hca0 4 _ rfl)))) ?_
  refine RL.callV rfl rfl (am1 rfl) (by kernel_rfl) ((c_mark d0.control.env _ _ _ hm0 w _ go gq _ _ A3 c3 M (SlAt.now intRd_ok h3 (Nat.le_refl _) T) r3 (M.oldA h3)).mono ?_)
  rintro _ w14 ⟨rfl,vq14,M,F14,hv14⟩
  refine ⟨_,rfl,?_⟩
  refine RL.nil<|then_n<|wp_seq<|wp_seq<|wp_rs rfl<|RQ.y rfl (Y.move (v:=.pointer (some ⟨ba0,oa0,none⟩)) s0)<|RQ.y rfl (Y.nilCheck rfl)<|RQ.y rfl (Y.fieldAddr (off:=5) rfl (by kernel_rfl))<|RQ.y rfl (Y.load (v:=.slice A4 d0.stack.length c4) rfl (by kernel_rfl) (eqC (cellT M.T (hca0 5 _ rfl))))<|RQ.y rfl (Y.len (by kernel_rfl) rfl)<|RQ.y rfl (Y.move (v:=.int .i64 0) rfl)<|RQ.nil<|then_n<|wp_block ?_
  refine wp_loopX (fun g f w'=>∃(k:Nat) (l1:List Bool) (q1:List Int) (vq1:Value),f 0=.pointer (some ⟨ba0,oa0,none⟩)∧f 3=.pointer (some ⟨go,0,none⟩)∧f 4=.pointer (some ⟨gq,0,none⟩)∧f 5=.func (.func 124) #[] #[.pointer (some ⟨go,0,none⟩),.pointer (some ⟨gq,0,none⟩)]∧f 26=.slice A4 d0.stack.length c4∧f 27=.int .i64 (d0.stack.length:Int)∧f 28=.int .i64 (k:Int)∧d0.stack.length+1≤g+k∧k≤d0.stack.length∧MkS w w' go gq (.slice (some ⟨w.heap.size,0,none⟩) d0.heap.length d0.heap.length) vq1 l1 q1∧stM (d0.stack.drop k) l1 q1=some s1m) 0
   (fun f w'=>∃vq1,f 0=.pointer (some ⟨ba0,oa0,none⟩)∧f 3=.pointer (some ⟨go,0,none⟩)∧f 4=.pointer (some ⟨gq,0,none⟩)∧f 5=.func (.func 124) #[] #[.pointer (some ⟨go,0,none⟩),.pointer (some ⟨gq,0,none⟩)]∧MkS w w' go gq (.slice (some ⟨w.heap.size,0,none⟩) d0.heap.length d0.heap.length) vq1 s1m.1 s1m.2) (d0.stack.length+1) ⟨0,_,_,vq14,s0,rfl,rfl,rfl,rfl,rfl,rfl,by omega,by omega,M,by simpa using hm1⟩ ?_ ?_
  ·rintro f w20 ⟨vq1,s0,s3,s4,s5,M⟩
   refine blk_hit (then_n ?_)
   refine wp_seq<|wp_block ?_
   refine wp_loopX (fun g f w'=>∃(l1:List Bool) (q1:List Int) (vq1:Value),f 0=.pointer (some ⟨ba0,oa0,none⟩)∧f 3=.pointer (some ⟨go,0,none⟩)∧f 4=.pointer (some ⟨gq,0,none⟩)∧f 5=.func (.func 124) #[] #[.pointer (some ⟨go,0,none⟩),.pointer (some ⟨gq,0,none⟩)]∧MkS w w' go gq (.slice (some ⟨w.heap.size,0,none⟩) d0.heap.length d0.heap.length) vq1 l1 q1∧dqM d0 g l1 q1=some r) 2
    (fun f w'=>∃(vq1:Value) (q1:List Int),f 3=.pointer (some ⟨go,0,none⟩)∧MkS w w' go gq (.slice (some ⟨w.heap.size,0,none⟩) d0.heap.length d0.heap.length) vq1 r q1) gas ⟨_,_,vq1,s0,s3,s4,s5,M,hm⟩ ?_ ?_
   ·rintro f w21 ⟨vq1,q1,s3,M⟩
    refine blk_hit (then_n ?_)
    refine wp_seq<|wp_rs rfl<|RQ.y rfl (Y.load (v:=(.slice (some ⟨w.heap.size,0,none⟩) d0.heap.length d0.heap.length)) s3 (by kernel_rfl) (eqC (blkCell M.bo (i:=0) rfl)))<|RQ.y rfl (Y.assign (v:=(.slice (some ⟨w.heap.size,0,none⟩) d0.heap.length d0.heap.length)) rfl)<|RQ.nil<|then_n<|wp_ret ?_
    exact (ret1 rfl rfl rfl ⟨⟨_,rfl,M.ho⟩,M.T⟩)
   rintro g f w3 ⟨l1,q1,vq1,s0,s3,s4,s5,M,hm⟩
   rcases g with _|g
   ·simp only [dqM] at hm; cases hm
   refine wp_seq<|wp_seq<|wp_rs rfl ?_
   rcases q1 with _|⟨a,q1⟩
   ·obtain ⟨Aq,cq,hvq⟩:=M.hq.form
    subst hvq
    refine RQ.y rfl (Y.load (v:=.slice Aq ([] : List Int).length cq) s4 (by kernel_rfl) (eqC (blkCell M.bq (i:=0) rfl)))<|RQ.y rfl (Y.len (by kernel_rfl) rfl)<|RQ.y rfl (Y.binI (v:=.bool false) rfl rfl rfl)<|RQ.nil<|then_n<|cond_f rfl rfl<|wp_exit ?_
    simp only [dqM] at hm
    obtain rfl:=sj hm
    exact (then_x (then_x (hit_x ⟨_,rfl,⟨_,_,s3,M⟩⟩)))
   obtain ⟨bq,oq,cq,hvq,hcq,hcell,htl⟩:=M.hq.head
   subst hvq
   have hlq:((q1.length:Nat):Int)+1≤9223372036854775807:=by
    rcases M.hq with ⟨h,_⟩|⟨g1,o1,c1',e1,_,_,_,hcm,_⟩
    ·cases h
    injection e1 with _ _ e3
    subst e3
    unfold maxLen at hcm
    omega
   refine RQ.y rfl (Y.load (v:=.slice (some ⟨bq,oq,none⟩) (q1.length+1) cq) s4 (by kernel_rfl) (eqC (blkCell M.bq (i:=0) rfl)))<|RQ.y rfl (Y.len (by kernel_rfl) rfl)<|RQ.y rfl (Y.binI (v:=.bool (decide (((q1.length+1:Nat):Int) > 0))) rfl rfl rfl)<|RQ.nil<|then_n<|cond_t rfl (vb rfl (by simp))<|wp_skip<|then_n<|wp_block<|wp_seq<|wp_rs rfl<|RQ.y rfl (Y.load (v:=.slice (some ⟨bq,oq,none⟩) (q1.length+1) cq) s4 (by kernel_rfl) (eqC (blkCell M.bq (i:=0) rfl)))<|RQ.y rfl (Y.indexAddr (m:=0) (sz:=1) rfl rfl rfl (by omega) (by kernel_rfl))<|RQ.y rfl (Y.load (v:=.int .i64 a) rfl (by kernel_rfl) (eqC hcell))<|RQ.y rfl (Y.assign (v:=.int .i64 a) rfl)<|RQ.nil<|then_n<|wp_seq<|wp_rl rfl<|RL.y rfl (Y.load (v:=.slice (some ⟨bq,oq,none⟩) (q1.length+1) cq) s4 (by kernel_rfl) (eqC (blkCell M.bq (i:=0) rfl))) ?_
   obtain ⟨Av,eA⟩ :∃Av,(if cq=1 then (some ⟨bq,oq,none⟩:Option Addr) else (some ⟨bq,oq,none⟩:Option Addr).map (·.add (1 * 1)))=Av:=⟨_,rfl⟩
   obtain ⟨htb,htq⟩:=htl Av eA
   refine RL.y rfl (Y.sliceL (l:=1) (sz:=1) rfl rfl rfl (by omega) (by kernel_rfl) eA) ?_
   refine RL.store (v:=.slice Av (q1.length+1 - 1) (cq - 1)) (cs':=#[.slice Av (q1.length+1 - 1) (cq - 1)]) rfl s4 rfl M.bq (by kernel_rfl) (by rfl) (by rfl) (by rfl) (fun w31 B31 ho31=>?_)
   have M:=M.storeQ ho31 B31 htq (fun k hk=>by rw [htb] at hk; exact hk)
   refine RL.nil<|then_n<|wp_rl rfl ?_
   simp only [dqM] at hm
   obtain ⟨x54,hx57,hm⟩:=bnd hm
   obtain ⟨k55,hk58,hl59,hx57⟩:=getI_some hx57
   obtain ⟨s2m,hm2,hm⟩:=bnd hm
   obtain ⟨b61,o62,rfl,hbb61⟩:=h5.addr (by omega)
   obtain ⟨cs56,hRcs56,hc60⟩:=h5.el hx57
   obtain ⟨A63,n63,c63,A64,n64,c64,A65,n65,c65,rfl,⟨h63,r63⟩,⟨h64,r64⟩,⟨h65,r65⟩⟩:=hRcs56
   have e65:=h65.len; subst e65
   refine RL.y rfl (Y.move (v:=.func (.func 124) #[] #[.pointer (some ⟨go,0,none⟩),.pointer (some ⟨gq,0,none⟩)]) s5)<|RL.y rfl (Y.move (v:=.pointer (some ⟨ba0,oa0,none⟩)) s0)<|RL.y rfl (Y.nilCheck rfl)<|RL.y rfl (Y.fieldAddr (off:=6) rfl (by kernel_rfl))<|RL.y rfl (Y.load (v:=.slice (some ⟨b61,o62,none⟩) d0.heap.length c5) rfl (by kernel_rfl) (eqC (cellT M.T (hca0 6 _ rfl))))<|RL.y rfl (Y.move (v:=.int .i64 a) rfl)<|RL.y rfl (Y.indexAddr (m:=k55) (sz:=6) rfl rfl hk58 hl59 (by kernel_rfl))<|RL.y rfl (Y.fieldAddr (off:=1) rfl (by kernel_rfl))<|RL.y rfl (Y.fieldAddr (off:=4) rfl (by kernel_rfl))<|RL.y rfl (Y.load (v:=.slice A65 x54.closure.env.length c65) rfl (by kernel_rfl) (eqC (cellT M.T (hc60 5 _ rfl)))) ?_
   refine RL.callV rfl rfl (am1 rfl) (by kernel_rfl) ((c_mark x54.closure.env _ _ _ hm2 w _ go gq _ _ A65 c65 M (SlAt.now intRd_ok h65 (Nat.le_refl _) M.T) r65 (M.oldA h65)).mono ?_)
   rintro _ w32 ⟨rfl,vq32,M,F32,hv32⟩
   refine ⟨_,rfl,?_⟩
   refine RL.nil ?_
   exact (blk_n (then_n ⟨g,_,Nat.lt_succ_self _,rfl,⟨_,_,vq32,s0,s3,s4,s5,M,hm⟩⟩))
  rintro g f w3 ⟨k,l1,q1,vq1,s0,s3,s4,s5,s26,s27,s28,hg,hk,M,hm1⟩
  rcases g with _|g
  ·omega
  refine wp_seq<|wp_rs rfl<|RQ.y rfl (Y.binI (v:=.bool (decide ((k:Int) < (d0.stack.length:Int)))) s28 s27 rfl)<|RQ.nil<|then_n<|wp_seq ?_
  rcases bcases (decide ((k:Int) < (d0.stack.length:Int))) with c4'|c4'
  ·have pc4:=of_decide_eq_false c4'
   refine cond_f rfl (vb rfl c4')<|wp_exit ?_
   have hd:d0.stack.drop k=[]:=List.drop_eq_nil_of_le (by omega)
   rw [hd] at hm1
   simp only [stM] at hm1
   obtain rfl:=sj hm1
   exact (then_x (then_x (hit_x ⟨_,rfl,⟨vq1,s0,s3,s4,s5,M⟩⟩)))
  have pc4:=of_decide_eq_true c4'
  have hkl:k < d0.stack.length:=by omega
  refine cond_t rfl (vb rfl c4')<|wp_skip<|then_n<|wp_seq<|wp_block<|wp_seq<|wp_rl rfl ?_
  obtain ⟨b42,o43,rfl,hbb42⟩:=h4.addr (by omega)
  have hx:d0.stack[k]? = some d0.stack[k]:=List.getElem?_eq_getElem hkl
  have hdr:d0.stack.drop k=d0.stack[k] :: d0.stack.drop (k+1):=List.drop_eq_getElem_cons hkl
  rw [hdr] at hm1
  generalize hxe:d0.stack[k] = x at hm1 hx
  obtain ⟨cs37,hRcs37,hc41⟩:=h4.el hx
  obtain ⟨A34,n34,c34,A35,n35,c35,A36,n36,c36,A37,n37,c37,rfl,⟨h34,r34⟩,⟨h35,r35⟩,⟨h36,r36⟩,⟨h37,r37⟩⟩:=hRcs37
  have e34:=h34.len; subst e34
  have e35:=h35.len; subst e35
  have e36:=h36.len; subst e36
  have e37:=h37.len; subst e37
  refine RL.y rfl (Y.indexAddr (m:=k) (sz:=8) s26 s28 rfl hkl (by kernel_rfl))<|RL.y rfl (Y.loadN (cs:=[.int .i64 x.kind,.int .i64 x.value,.slice A34 x.data.length c34,.int .i64 x.closure.term.kind,.int .i64 x.closure.term.value,.slice A35 x.closure.term.data.length c35,.slice A36 x.closure.term.kids.length c36,.slice A37 x.closure.env.length c37]) rfl (by kernel_rfl) (cells8 (eqC (cellT M.T (hc41 0 _ rfl))) (eqC (cellT M.T (hc41 1 _ rfl))) (eqC (cellT M.T (hc41 2 _ rfl))) (eqC (cellT M.T (hc41 3 _ rfl))) (eqC (cellT M.T (hc41 4 _ rfl))) (eqC (cellT M.T (hc41 5 _ rfl))) (eqC (cellT M.T (hc41 6 _ rfl))) (eqC (cellT M.T (hc41 7 _ rfl))))) ?_
  refine RL.alloc (z:=.agg #[.int .i64 0,.int .i64 0,.slice none 0 0,.int .i64 0,.int .i64 0,.slice none 0 0,.slice none 0 0,.slice none 0 0]) rfl (by kernel_rfl) (fun w47 B48 hb49 szw47=>?_)
  have hfb:=M.fresh (Nat.le_refl _)
  have hfw:=M.T.size
  have M:=M.below hb49
  refine RL.store (v:=.agg #[.int .i64 x.kind,.int .i64 x.value,.slice A34 x.data.length c34,.int .i64 x.closure.term.kind,.int .i64 x.closure.term.value,.slice A35 x.closure.term.data.length c35,.slice A36 x.closure.term.kids.length c36,.slice A37 x.closure.env.length c37]) (cs':=#[.int .i64 x.kind,.int .i64 x.value,.slice A34 x.data.length c34,.int .i64 x.closure.term.kind,.int .i64 x.closure.term.value,.slice A35 x.closure.term.data.length c35,.slice A36 x.closure.term.kids.length c36,.slice A37 x.closure.env.length c37]) rfl rfl rfl B48 (by kernel_rfl) (by rfl) (by rfl) (by rfl) (fun w51 B52 ho53=>?_)
  have M:=M.only_ ho53 hfb hfw
  have Bf:Blk w51 w3.heap.size 145 #[.int .i64 x.kind,.int .i64 x.value,.slice A34 x.data.length c34,.int .i64 x.closure.term.kind,.int .i64 x.closure.term.value,.slice A35 x.closure.term.data.length c35,.slice A36 x.closure.term.kids.length c36,.slice A37 x.closure.env.length c37]:=B52
  generalize hfbe:w3.heap.size=fb at Bf hfb ⊢
  refine RL.nil<|then_n ?_
  simp only [stM] at hm1
  obtain ⟨s2m,hm2,hm1a⟩:=bnd hm1
  obtain ⟨s3m,hm3,hm1b⟩:=bnd hm1a
  refine wp_seq<|wp_seq<|wp_rs rfl<|RQ.y rfl (Y.fieldAddr (off:=0) rfl (by kernel_rfl))<|RQ.y rfl (Y.load (v:=.int .i64 x.kind) rfl (by kernel_rfl) (eqC (blkCell Bf (i:=0) rfl)))<|RQ.y rfl (Y.binI (v:=.bool (x.kind==1)) rfl rfl rfl)<|RQ.y rfl (Y.move (v:=.bool (x.kind==1)) rfl) ?_
  rcases bcases (x.kind==1) with c5'|c5'
  ·refine RQ.y (wantT (dj:=35) rfl (vb rfl c5')) (Y.fieldAddr (off:=0) rfl (by kernel_rfl))<|RQ.y (wantT (dj:=35) rfl (vb rfl c5')) (Y.load (v:=.int .i64 x.kind) rfl (by kernel_rfl) (eqC (blkCell Bf (i:=0) rfl)))<|RQ.y (wantT (dj:=35) rfl (vb rfl c5')) (Y.binI (v:=.bool (x.kind==2)) rfl rfl rfl)<|RQ.y rfl (Y.pick (b:=false) (v:=.bool (x.kind==2)) (vb rfl c5') rfl)<|RQ.nil<|then_n ?_
   rcases bcases (x.kind==2) with c6'|c6'
   ·rw [c5',c6',Bool.or_false,cond_false] at hm2
    obtain rfl:=sj hm2
    refine cond_f rfl (vb rfl c6')<|wp_skip<|then_n<|wp_rl rfl<|RL.y rfl (Y.move (v:=.func (.func 124) #[] #[.pointer (some ⟨go,0,none⟩),.pointer (some ⟨gq,0,none⟩)]) s5)<|RL.y rfl (Y.fieldAddr (off:=3) rfl (by kernel_rfl))<|RL.y rfl (Y.fieldAddr (off:=4) rfl (by kernel_rfl))<|RL.y rfl (Y.load (v:=.slice A37 x.closure.env.length c37) rfl (by kernel_rfl) (eqC (blkCell Bf (i:=7) rfl))) ?_
    refine RL.callV rfl rfl (am1 rfl) (by kernel_rfl) ((c_mark x.closure.env _ _ _ hm3 w _ go gq _ _ A37 c37 M (SlAt.now intRd_ok h37 (Nat.le_refl _) M.T) r37 (M.oldA h37)).mono ?_)
    rintro _ w72 ⟨rfl,vq72,M,F72,hv72⟩
    refine ⟨_,rfl,?_⟩
    refine RL.nil ?_
    refine blk_n (then_n ?_)
    refine wp_rs rfl<|RQ.y rfl (Y.binI s28 rfl (binI_add (m:=k) (by omega)))<|RQ.y rfl (Y.move (v:=.int .i64 ((k:Int)+1)) rfl)<|RQ.nil ?_
    exact (then_n ⟨g,_,Nat.lt_succ_self _,rfl,⟨k+1,_,_,vq72,s0,s3,s4,s5,s26,s27,rfl,by omega,by omega,M,hm1b⟩⟩)
   rw [c5',c6',Bool.or_true,cond_true] at hm2
   refine cond_t rfl (vb rfl c6')<|wp_rl rfl<|RL.y rfl (Y.move (v:=.func (.func 124) #[] #[.pointer (some ⟨go,0,none⟩),.pointer (some ⟨gq,0,none⟩)]) s5)<|RL.y rfl (Y.fieldAddr (off:=1) rfl (by kernel_rfl))<|RL.y rfl (Y.load (v:=.int .i64 x.value) rfl (by kernel_rfl) (eqC (blkCell Bf (i:=1) rfl))) ?_
   refine RL.bslice (e:=2) (cells:=#[.int .i64 x.value]) rfl (pm1 rfl) (by kernel_rfl) (fun w61 B61 hb61 szw61=>?_)
   have hlA:=M.fresh (Nat.le_refl _)
   have M:=M.below hb61
   have Bf:=blkT Bf hb61
   have Gl:=OwF.lit (enc:=encI) (sz:=1) (xs:=[x.value]) B61 (Nat.le_refl _) rfl rfl rfl rfl
   have hsl:=OwF.sl fI Gl
   refine RL.callV rfl rfl (am1 rfl) (by kernel_rfl) ((c_mark [x.value] _ _ _ hm2 w _ go gq _ _ _ _ M hsl.1 hsl.2 (fun _ b o e=>by injection e with e; injection e with e1; rw [← e1]; exact hlA)).mono ?_)
   rintro _ w62 ⟨rfl,vq62,M2,F62,hv62⟩
   refine ⟨_,rfl,?_⟩
   have Bf:=(F62.block _ Bf.lt hfb).trans Bf
   have M:=M2
   refine RL.nil<|then_n<|wp_rl rfl<|RL.y rfl (Y.move (v:=.func (.func 124) #[] #[.pointer (some ⟨go,0,none⟩),.pointer (some ⟨gq,0,none⟩)]) s5)<|RL.y rfl (Y.fieldAddr (off:=3) rfl (by kernel_rfl))<|RL.y rfl (Y.fieldAddr (off:=4) rfl (by kernel_rfl))<|RL.y rfl (Y.load (v:=.slice A37 x.closure.env.length c37) rfl (by kernel_rfl) (eqC (blkCell Bf (i:=7) rfl))) ?_
   refine RL.callV rfl rfl (am1 rfl) (by kernel_rfl) ((c_mark x.closure.env _ _ _ hm3 w _ go gq _ _ A37 c37 M (SlAt.now intRd_ok h37 (Nat.le_refl _) M.T) r37 (M.oldA h37)).mono ?_)
   rintro _ w72 ⟨rfl,vq72,M,F72,hv72⟩
   refine ⟨_,rfl,?_⟩
   refine RL.nil ?_
   refine blk_n (then_n ?_)
   refine wp_rs rfl<|RQ.y rfl (Y.binI s28 rfl (binI_add (m:=k) (by omega)))<|RQ.y rfl (Y.move (v:=.int .i64 ((k:Int)+1)) rfl)<|RQ.nil ?_
   exact (then_n ⟨g,_,Nat.lt_succ_self _,rfl,⟨k+1,_,_,vq72,s0,s3,s4,s5,s26,s27,rfl,by omega,by omega,M,hm1b⟩⟩)
  rw [c5',Bool.true_or,cond_true] at hm2
  iterate 3 refine RQ.skip (wantN (dj:=35) rfl (vb rfl c5') rfl) ?_
  refine RQ.y rfl (Y.pick (b:=true) (v:=.bool true) (vb rfl c5') rfl)<|RQ.nil<|then_n<|cond_t rfl rfl<|wp_rl rfl<|RL.y rfl (Y.move (v:=.func (.func 124) #[] #[.pointer (some ⟨go,0,none⟩),.pointer (some ⟨gq,0,none⟩)]) s5)<|RL.y rfl (Y.fieldAddr (off:=1) rfl (by kernel_rfl))<|RL.y rfl (Y.load (v:=.int .i64 x.value) rfl (by kernel_rfl) (eqC (blkCell Bf (i:=1) rfl))) ?_
  refine RL.bslice (e:=2) (cells:=#[.int .i64 x.value]) rfl (pm1 rfl) (by kernel_rfl) (fun w61 B61 hb61 szw61=>?_)
  have hlA:=M.fresh (Nat.le_refl _)
  have M:=M.below hb61
  have Bf:=blkT Bf hb61
  have Gl:=OwF.lit (enc:=encI) (sz:=1) (xs:=[x.value]) B61 (Nat.le_refl _) rfl rfl rfl rfl
  have hsl:=OwF.sl fI Gl
  refine RL.callV rfl rfl (am1 rfl) (by kernel_rfl) ((c_mark [x.value] _ _ _ hm2 w _ go gq _ _ _ _ M hsl.1 hsl.2 (fun _ b o e=>by injection e with e; injection e with e1; rw [← e1]; exact hlA)).mono ?_)
  rintro _ w62 ⟨rfl,vq62,M2,F62,hv62⟩
  refine ⟨_,rfl,?_⟩
  have Bf:=(F62.block _ Bf.lt hfb).trans Bf
  have M:=M2
  refine RL.nil<|then_n<|wp_rl rfl<|RL.y rfl (Y.move (v:=.func (.func 124) #[] #[.pointer (some ⟨go,0,none⟩),.pointer (some ⟨gq,0,none⟩)]) s5)<|RL.y rfl (Y.fieldAddr (off:=3) rfl (by kernel_rfl))<|RL.y rfl (Y.fieldAddr (off:=4) rfl (by kernel_rfl))<|RL.y rfl (Y.load (v:=.slice A37 x.closure.env.length c37) rfl (by kernel_rfl) (eqC (blkCell Bf (i:=7) rfl))) ?_
  refine RL.callV rfl rfl (am1 rfl) (by kernel_rfl) ((c_mark x.closure.env _ _ _ hm3 w _ go gq _ _ A37 c37 M (SlAt.now intRd_ok h37 (Nat.le_refl _) M.T) r37 (M.oldA h37)).mono ?_)
  rintro _ w72 ⟨rfl,vq72,M,F72,hv72⟩
  refine ⟨_,rfl,?_⟩
  refine RL.nil ?_
  refine blk_n (then_n ?_)
  refine wp_rs rfl<|RQ.y rfl (Y.binI s28 rfl (binI_add (m:=k) (by omega)))<|RQ.y rfl (Y.move (v:=.int .i64 ((k:Int)+1)) rfl)<|RQ.nil ?_
  exact (then_n ⟨g,_,Nat.lt_succ_self _,rfl,⟨k+1,_,_,vq72,s0,s3,s4,s5,s26,s27,rfl,by omega,by omega,M,hm1b⟩⟩)
end
section
open Go.RowKit
set_option maxRecDepth 100000
noncomputable def m_impl_LiveThunks_A1 (xs29:List Int):Option ((List Int) × Int):=
  some (xs29,0)
noncomputable def m_impl_LiveThunks_B1 (y20:List Bool) (rec1:List Int→Int→Option ((List Int) × Int)) (K1:List Int→Option ((List Int) × Int)) (xs31:List Int) (i32:Int):Option ((List Int) × Int):=
  (bif (decide (i32 < (y20.length:Int))) then ((getI y20 i32).bind fun x35=>(bif x35 then ((mustP (xs31.length+([i32]).length≤4294967296)).bind fun _=>(rec1 (xs31 ++ [i32]) (i32+1))) else (rec1 xs31 (i32+1)))) else (K1 xs31))
noncomputable def m_impl_LiveThunks_L1 (y20:List Bool) (K1:List Int→Option ((List Int) × Int)):Nat→List Int→Int→Option ((List Int) × Int)
  |0,_,_=>none
  |g+1,xs31,i32=>m_impl_LiveThunks_B1 y20 (m_impl_LiveThunks_L1 y20 K1 g) K1 xs31 i32
noncomputable def m_impl_LiveThunks (d0:DBook) (d1:DNeed):Option ((List Int) × Int):=
  ((m_impl_ValidNeed d0 d1).bind fun y15=>(bif y15 then ((m_impl_Need_live (d1.heap.length+2) d1).bind fun y20=>(m_impl_LiveThunks_L1 y20 m_impl_LiveThunks_A1 (y20.length+1) ([]) 0)) else some ([],1)))
set_option maxHeartbeats 2000000 in
theorem c_m_impl_LiveThunks (d0:DBook) (d1:DNeed) (r:(List Int) × Int) (hm:m_impl_LiveThunks d0 d1=some r) (v0:Value) (v1:Value) (w:World) (hv0:St bookRd w v0 d0) (hv1:St needRd w v1 d1) :
    Calls Tryz.prog 25 #[v0,v1] w fun e w'=>(∃(v0:Value),e=.returned (.tuple #[v0,.int .i64 r.2])∧OwF 2 encI 1 w' w.heap.size v0 r.1)∧Below w.heap.size w w':=by
  obtain ⟨csa0,rfl,⟨A1,n1,c1,rfl,⟨h1,r1⟩⟩⟩:=hv0
  have e1:=h1.len; subst e1
  have q1:=len_le r1
  obtain ⟨csa1,rfl,⟨A2,n2,c2,A3,n3,c3,A4,n4,c4,A5,n5,c5,A6,n6,c6,rfl,⟨h2,r2⟩,⟨h3,r3⟩,⟨h4,r4⟩,⟨h5,r5⟩,⟨h6,r6⟩⟩⟩:=hv1
  have e2:=h2.len; subst e2
  have q2:=len_le r2
  have e3:=h3.len; subst e3
  have q3:=len_le r3
  have e4:=h4.len; subst e4
  have q4:=len_le r4
  have e5:=h5.len; subst e5
  have q5:=len_le r5
  have e6:=h6.len; subst e6
  have q6:=len_le r6
  have T:=Below.refl w.heap.size w
  unfold m_impl_LiveThunks at hm
  refine enter 27 Tryz.func25 rfl rfl rfl ?_
  intro f hf
  have s0:f 0=.agg #[.slice A1 d0.defs.length c1]:=hf 0 _ rfl
  have s1:f 1=.agg #[.int .i64 d1.control.term.kind,.int .i64 d1.control.term.value,.slice A2 d1.control.term.data.length c2,.slice A3 d1.control.term.kids.length c3,.slice A4 d1.control.env.length c4,.slice A5 d1.stack.length c5,.slice A6 d1.heap.length c6]:=hf 1 _ rfl
  refine wp_seq<|wp_rl rfl ?_
  refine RL.box rfl s0 (fun w7 B8 hb9 szw7=>?_)
  replace B8:Blk w7 w.heap.size 75 #[.slice A1 d0.defs.length c1]:=B8
  have GB8:w.heap.size≤w.heap.size:=T.size
  have T:=Tt T hb9
  refine RL.box rfl s1 (fun w11 B12 hb13 szw11=>?_)
  replace B12:Blk w11 w7.heap.size 84 #[.int .i64 d1.control.term.kind,.int .i64 d1.control.term.value,.slice A2 d1.control.term.data.length c2,.slice A3 d1.control.term.kids.length c3,.slice A4 d1.control.env.length c4,.slice A5 d1.stack.length c5,.slice A6 d1.heap.length c6]:=B12
  have GB12:w.heap.size≤w7.heap.size:=T.size
  have Eob14_ob10:=Nat.ne_of_lt B8.lt
  have B8:=blkT B8 hb13
  have T:=Tt T hb13
  refine RL.y rfl (Y.assign (v:=.slice none 0 0) rfl)<|RL.y rfl (Y.assign (v:=.int .i64 0) rfl)<|RL.nil<|then_n<|wp_seq<|wp_seq<|wp_rb rfl<|RQ.y rfl (Y.loadN (cs:=[.slice A1 d0.defs.length c1]) rfl (by kernel_rfl) (cells1 (beC (blkCell B8 (i:=0) rfl))))<|RQ.y rfl (Y.loadN (cs:=[.int .i64 d1.control.term.kind,.int .i64 d1.control.term.value,.slice A2 d1.control.term.data.length c2,.slice A3 d1.control.term.kids.length c3,.slice A4 d1.control.env.length c4,.slice A5 d1.stack.length c5,.slice A6 d1.heap.length c6]) rfl (by kernel_rfl) (cells7 (beC (blkCell B12 (i:=0) rfl)) (beC (blkCell B12 (i:=1) rfl)) (beC (blkCell B12 (i:=2) rfl)) (beC (blkCell B12 (i:=3) rfl)) (beC (blkCell B12 (i:=4) rfl)) (beC (blkCell B12 (i:=5) rfl)) (beC (blkCell B12 (i:=6) rfl)))) ?_
  obtain ⟨y15,e16,hm⟩:=bnd hm
  refine RQ.call rfl (am2 rfl rfl) (by kernel_rfl) (v:=.bool y15) (bel (K:=fun _=>True) fun w' hb'=>(c_m_impl_ValidNeed d0 d1 _ e16 _ _ w' (stArg (R:=bookRd) ⟨_,_,_,rfl,⟨SlAt.now coreRd_ok h1 (Nat.le_refl _) (Tt T hb'),r1⟩⟩) (stArg (R:=needRd) ⟨_,_,_,_,_,_,_,_,_,_,_,_,_,_,_,rfl,⟨SlAt.now intRd_ok h2 (Nat.le_refl _) (Tt T hb'),r2⟩,⟨SlAt.now coreRd_ok h3 (Nat.le_refl _) (Tt T hb'),r3⟩,⟨SlAt.now intRd_ok h4 (Nat.le_refl _) (Tt T hb'),r4⟩,⟨SlAt.now frameRd_ok h5 (Nat.le_refl _) (Tt T hb'),r5⟩,⟨SlAt.now thunkRd_ok h6 (Nat.le_refl _) (Tt T hb'),r6⟩⟩)))<|RQ.y rfl (Y.not (b':=(!y15)) rfl rfl)<|RQ.nil ?_
  intro w17 hb18
  have szw17:=hb18.size
  have B12:=blkT B12 hb18
  have T:=Tt T hb18
  refine then_n ?_
  rcases bcases y15 with c19|c19
  ·replace hm:=cF c19 hm
   refine cond_t rfl (vbn rfl c19 rfl)<|wp_seq<|wp_rs rfl<|RQ.y rfl (Y.assign (v:=.slice none 0 0) rfl)<|RQ.y rfl (Y.assign (v:=.int .i64 1) rfl)<|RQ.nil<|then_n<|wp_ret ?_
   obtain rfl:=sj hm
   exact (then_r (ret2 rfl rfl rfl rfl ⟨⟨_,rfl,OwF.nil⟩,T⟩))
  replace hm:=cT c19 hm
  refine cond_f rfl (vbn rfl c19 rfl)<|wp_skip<|then_n<|wp_seq<|wp_rs rfl<|RQ.y rfl (Y.assign (v:=.slice none 0 0) rfl)<|RQ.nil<|then_n<|wp_seq<|wp_seq<|wp_rl rfl ?_
  obtain ⟨y20,e21,hm⟩:=bnd hm
  refine RL.call rfl (am1 rfl) (by kernel_rfl) ((c_m_impl_Need_live (d1.heap.length+2) d1 _ e21 _ _ (ptBox (R:=needRd) B12 ⟨_,_,_,_,_,_,_,_,_,_,_,_,_,_,_,rfl,⟨SlAt.now intRd_ok h2 (Nat.le_refl _) T,r2⟩,⟨SlAt.now coreRd_ok h3 (Nat.le_refl _) T,r3⟩,⟨SlAt.now intRd_ok h4 (Nat.le_refl _) T,r4⟩,⟨SlAt.now frameRd_ok h5 (Nat.le_refl _) T,r5⟩,⟨SlAt.now thunkRd_ok h6 (Nat.le_refl _) T,r6⟩⟩)).mono ?_)
  rintro _ w25 ⟨⟨v22,rfl,G23⟩,hb26⟩
  refine ⟨_,rfl,?_⟩
  have szw25:=hb26.size
  have T0w25:=T.size
  have Zo24_ob14:=ap_ne (Ap.new (OwF.flo G23) (one_hi B12.lt))
  have B12:=blkT B12 hb26
  have T:=Tt T hb26
  replace G23:=OwF.mono G23 T0w25
  obtain ⟨A27,c28,rfl⟩:=OwF.form G23
  have qbA27:=OwF.bound G23
  refine RL.y rfl (Y.len (by kernel_rfl) rfl)<|RL.y rfl (Y.move (v:=.int .i64 0) rfl)<|RL.nil<|then_n<|wp_block ?_
  obtain ⟨K1,hK1,hm⟩ :∃K,K=m_impl_LiveThunks_A1∧m_impl_LiveThunks_L1 y20 K (y20.length+1) ([]) 0=some r:=⟨_,rfl,hm⟩
  refine wp_loopX (fun g f w'=>∃(xs31:List Int) (i32:Int) (uxs31:Value),f 13=.slice A27 y20.length c28∧f 14=.int .i64 (y20.length:Int)∧f 6=uxs31∧OwF 2 encI 1 w' w.heap.size uxs31 xs31∧f 15=.int .i64 i32∧0≤i32∧Dj uxs31 (.slice A27 y20.length c28)∧OwF 4 encB 1 w' w.heap.size (.slice A27 y20.length c28) y20∧Below w.heap.size w w'∧m_impl_LiveThunks_L1 y20 K1 g xs31 i32=some r) 0 (fun f w'=>∃(xs29:List Int) (uxs29:Value),f 6=uxs29∧OwF 2 encI 1 w' w.heap.size uxs29 xs29∧Below w.heap.size w w'∧m_impl_LiveThunks_A1 xs29=some r) (y20.length+1) ⟨([]),0,(.slice none 0 0),rfl,rfl,rfl,OwF.nil,rfl,(by omega),Dj.nil,G23,T,hm⟩ ?_ ?_
  ·rintro f w30 ⟨xs29,uxs29,s6_1x,Guxs29,T,hm⟩
   unfold m_impl_LiveThunks_A1 at hm
   refine blk_hit (then_n ?_)
   refine wp_seq<|wp_rs rfl<|RQ.y rfl (Y.move (v:=uxs29) s6_1x)<|RQ.y rfl (Y.assign (v:=uxs29) rfl)<|RQ.y rfl (Y.assign (v:=.int .i64 0) rfl)<|RQ.nil<|then_n<|wp_ret ?_
   obtain rfl:=sj hm
   exact (ret2 rfl rfl rfl rfl ⟨⟨_,rfl,Guxs29⟩,T⟩)
  rintro g f w33 ⟨xs31,i32,uxs31,s13_1,s14_1,s6_1,Guxs31,s15_1,nn15_1,Doxs31_o24,G23,T,hm⟩
  rcases g with _|g
  ·simp only [m_impl_LiveThunks_L1] at hm; cases hm
  obtain ⟨rec1,hrec1,hm⟩ :∃z,z=m_impl_LiveThunks_L1 y20 K1 g∧m_impl_LiveThunks_B1 y20 z K1 xs31 i32=some r:=⟨_,rfl,hm⟩
  unfold m_impl_LiveThunks_B1 at hm
  refine wp_seq<|wp_rs rfl<|RQ.y rfl (Y.binI (v:=.bool (decide (i32 < (y20.length:Int)))) s15_1 s14_1 rfl)<|RQ.nil<|then_n<|wp_seq ?_
  rcases bcases (decide (i32 < (y20.length:Int))) with c34|c34
  ·replace hm:=cF c34 hm
   have pc34:=of_decide_eq_false c34
   refine cond_f rfl (vb rfl c34)<|wp_exit ?_
   exact (then_x (then_x (hit_x ⟨_,rfl,⟨xs31,(uxs31),s6_1,Guxs31,T,(by rw [hK1] at hm; exact hm)⟩⟩)))
  replace hm:=cT c34 hm
  have pc34:=of_decide_eq_true c34
  refine cond_t rfl (vb rfl c34)<|wp_skip<|then_n<|wp_seq<|wp_block<|wp_seq<|wp_rs rfl<|RQ.y rfl (Y.move (v:=.int .i64 i32) s15_1) ?_
  obtain ⟨x35,hx37,hm⟩:=bnd hm
  obtain ⟨k36,hk38,hl39,hx37⟩:=getI_some hx37
  obtain ⟨b40,rfl⟩:=OwF.addr0 G23 (by omega)
  refine RQ.y rfl (Y.indexAddr (m:=k36) (sz:=1) s13_1 s15_1 hk38 hl39 (by kernel_rfl))<|RQ.y rfl (Y.load (v:=.bool x35) rfl (by kernel_rfl) (eqC (OwF.cell fB G23 hx37 (j:=0) rfl)))<|RQ.y rfl (Y.assign (v:=.int .i64 i32) rfl)<|RQ.y rfl (Y.assign (v:=.bool x35) rfl)<|RQ.nil<|then_n<|wp_seq<|wp_rs rfl<|RQ.y rfl (Y.move (v:=.bool x35) rfl)<|RQ.nil<|then_n ?_
  rcases bcases x35 with c41|c41
  ·replace hm:=cF c41 hm
   refine cond_f rfl (vb rfl c41)<|wp_skip ?_
   refine blk_n (then_n ?_)
   refine wp_rs rfl<|RQ.y rfl (Y.binI s15_1 rfl (binI_add (m:=i32) (by omega)))<|RQ.y rfl (Y.move (v:=.int .i64 (i32+1)) rfl)<|RQ.nil ?_
   exact (then_n ⟨g,_,Nat.lt_succ_self _,rfl,⟨xs31,(i32+1),(uxs31),s13_1,s14_1,s6_1,Guxs31,rfl,(by omega),(Ap.dj (Dj.ap Doxs31_o24)),G23,T,(by rw [← hrec1]; exact hm)⟩⟩)
  replace hm:=cT c41 hm
  refine cond_t rfl (vb rfl c41)<|wp_rl rfl<|RL.y rfl (Y.move (v:=uxs31) s6_1)<|RL.y rfl (Y.move (v:=.int .i64 i32) rfl) ?_
  refine RL.bslice (e:=2) (cells:=#[.int .i64 i32]) rfl (pm1 rfl) (by kernel_rfl) (fun w42 B43 hb44 szw42=>?_)
  have ZB43:w.heap.size≤w33.heap.size:=T.size
  have Do45_o24:=Dj.new (v:=.slice (some ⟨w33.heap.size,0,none⟩) 1 1) litGe (OwF.hi G23)
  have Do45_oxs31:=Dj.new (v:=.slice (some ⟨w33.heap.size,0,none⟩) 1 1) litGe (OwF.hi Guxs31)
  have G23:=OwF.below G23 hb44
  have Guxs31:=OwF.below Guxs31 hb44
  have T:=Tt T hb44
  have G46:=OwF.lit (enc:=encI) (sz:=1) (xs:=[i32]) B43 ZB43 rfl rfl rfl rfl
  obtain ⟨_,m48,hm⟩:=bnd hm
  have hk49:=mustP_some m48
  refine RL.append fI app_int64 rfl rfl rfl Guxs31 (OwF.arg fI G46) T.size hk49 (fun v50 w51 G52 hgr53 hbl54 hnb55=>?_)
  have szw51:=hbl54.size
  have Do56_o24:=Dj.app Doxs31_o24 hnb55 (OwF.hi G23)
  have G23:=OwF.keptD G23 hgr53 (Dj.symm Doxs31_o24)
  have T:=T.trans hbl54
  refine RL.y rfl (Y.assign (v:=v50) rfl)<|RL.nil ?_
  refine blk_n (then_n ?_)
  refine wp_rs rfl<|RQ.y rfl (Y.binI s15_1 rfl (binI_add (m:=i32) (by omega)))<|RQ.y rfl (Y.move (v:=.int .i64 (i32+1)) rfl)<|RQ.nil ?_
  exact (then_n ⟨g,_,Nat.lt_succ_self _,rfl,⟨(xs31 ++ [i32]),(i32+1),(v50),s13_1,s14_1,rfl,G52,rfl,(by omega),(Ap.dj (Dj.ap Do56_o24)),G23,T,(by rw [← hrec1]; exact hm)⟩⟩)
end
section
open Go.RowKit
/-- The fields of a value are the variables of its environment, in order. -/
def fieldsV:List DCore→Nat→Bool
  |[],_=>true
  |y :: ys,i=>(decide (y.kind=1) && decide (y.value=(i:Int))) && fieldsV ys (i+1)
theorem loopFv {L:Nat→Int→Option Bool} {ks:List DCore} {K:Option Bool} (h :∀g (k:Nat) (hk:k < ks.length),L (g+1) (k:Int)=bif (decide (ks[k].kind=1) && decide (ks[k].value=(k:Int))) then L g ((k:Int)+1) else some false) (he :∀g,L (g+1) (ks.length:Int)=K):L (ks.length+1) 0=bif fieldsV ks 0 then K else some false:=by
  have key :∀(m k g:Nat),k+m=ks.length→m < g→L g (k:Int)=bif fieldsV (ks.drop k) k then K else some false:=by
    intro m
    induction m with
    |zero=>
      intro k g hk hg
      obtain ⟨g,rfl⟩ :∃g',g=g'+1:=⟨g - 1,by omega⟩
      rw [show k=ks.length by omega,he,List.drop_length]; rfl
    |succ m ih=>
      intro k g hk hg
      obtain ⟨g,rfl⟩ :∃g',g=g'+1:=⟨g - 1,by omega⟩
      have hl:k < ks.length:=by omega
      rw [h g k hl,List.drop_eq_getElem_cons hl,fieldsV]
      cases hp:(decide (ks[k].kind=1) && decide (ks[k].value=(k:Int))) with
      |false=>rfl
      |true=>rw [cond_true,Bool.true_and,show ((k:Int)+1)=((k+1:Nat):Int) by omega]; exact ih (k+1) g (by omega) (by omega)
  have:=key ks.length 0 (ks.length+1) (by omega) (by omega)
  simpa using this
theorem bneV (a b:Int):(a != b) = !decide (a=b):=by rw [Bool.eq_iff_iff]; simp
def valD (c:DClosure):Bool:=if c.term.kind=4 then true else if c.term.kind=2 then true else if c.term.kind=8 then decide (c.term.kids.length=c.env.length) && fieldsV c.term.kids 0 else false
theorem p_sVal (c:DClosure):m_spec_l09IsValue c=some (valD c):=by
  unfold m_spec_l09IsValue m_spec_l09Fields valD
  rw [valEq c.term.kind,valEq c.term.kind,valEq c.term.kind]
  by_cases h4:c.term.kind=4
  · rw [decide_eq_true h4,if_pos h4]; rfl
  rw [decide_eq_false h4,if_neg h4,cond_false]
  by_cases h2:c.term.kind=2
  · rw [decide_eq_true h2,if_pos h2]; rfl
  rw [decide_eq_false h2,if_neg h2,cond_false]
  by_cases h8:c.term.kind=8
  · rw [decide_eq_true h8,if_pos h8,cond_true,bne_nat,loopFv (L:=m_spec_l09Fields_L1 c m_spec_l09Fields_A1) (ks:=c.term.kids) (K:=some true)
      (fun g k hk=>by
        simp -implicitDefEqProofs only [m_spec_l09Fields_L1,m_spec_l09Fields_B1,dlt hk,cond_true,getI_lt hk,Option.bind_some,bneV]
        cases decide (c.term.kids[k].kind=1) <;> cases decide (c.term.kids[k].value=(k:Int)) <;> rfl)
      (fun g=>by simp -implicitDefEqProofs only [m_spec_l09Fields_L1,m_spec_l09Fields_B1,dge,cond_false,m_spec_l09Fields_A1])]
    cases decide (c.term.kids.length=c.env.length) <;> cases fieldsV c.term.kids 0 <;> rfl
  · rw [decide_eq_false h8,if_neg h8]; rfl
theorem p_iVal (c:DClosure):m_impl_Closure_isValue c=some (valD c):=by
  unfold m_impl_Closure_isValue valD
  rw [valEq c.term.kind,valEq c.term.kind,valEq c.term.kind]
  by_cases h4:c.term.kind=4
  · rw [decide_eq_true h4,if_pos h4]; rfl
  rw [decide_eq_false h4,if_neg h4,cond_false]
  by_cases h2:c.term.kind=2
  · rw [decide_eq_true h2,if_pos h2]; rfl
  rw [decide_eq_false h2,if_neg h2,cond_false]
  by_cases h8:c.term.kind=8
  · rw [decide_eq_true h8,if_pos h8,cond_true,loopFv (L:=m_impl_Closure_isValue_L1 c (m_impl_Closure_isValue_A1 c)) (ks:=c.term.kids) (K:=m_impl_Closure_isValue_A1 c)
      (fun g k hk=>by
        simp -implicitDefEqProofs only [m_impl_Closure_isValue_L1,m_impl_Closure_isValue_B1,dlt hk,cond_true,getI_lt hk,Option.bind_some,bneV]
        cases decide (c.term.kids[k].kind=1) <;> cases decide (c.term.kids[k].value=(k:Int)) <;> rfl)
      (fun g=>by simp -implicitDefEqProofs only [m_impl_Closure_isValue_L1,m_impl_Closure_isValue_B1,dge,cond_false])]
    unfold m_impl_Closure_isValue_A1
    rw [lenEq,show decide (c.env.length=c.term.kids.length)=decide (c.term.kids.length=c.env.length) from decide_eq_decide.2 ⟨fun h=>h.symm,fun h=>h.symm⟩]
    cases decide (c.term.kids.length=c.env.length) <;> cases fieldsV c.term.kids 0 <;> rfl
  · rw [decide_eq_false h8,if_neg h8]; rfl
def blankD (c:DClosure):Bool:=(decide (c.term.kind=0) && (decide (c.term.value=0) && (decide (c.term.data.length=0) && decide (c.term.kids.length=0)))) && decide (c.env.length=0)
theorem p_sBlank (c:DClosure):m_spec_l09NoClosure c=some (blankD c):=by
  unfold m_spec_l09NoClosure blankD
  rw [lnI0,lnI0,lnI0,valEq c.term.kind,valEq c.term.value]
  cases decide (c.term.kind=0) <;> cases decide (c.term.value=0) <;> cases decide (c.term.data.length=0) <;> cases decide (c.term.kids.length=0) <;> rfl
theorem p_iBlank (c:DClosure):m_impl_Closure_isBlank c=some (blankD c):=by
  unfold m_impl_Closure_isBlank blankD
  rw [etaC]
  obtain ⟨g,hg⟩ :∃g,SizeOf.sizeOf c.term=g+1:=⟨SizeOf.sizeOf c.term - 1,by have:=c.term.pos; omega⟩
  rw [hg]
  have e:m_impl_SameCore (g+1) c.term (⟨0,0,[],[]⟩:DCore)=m_impl_SameCore_R (m_impl_SameCore g) c.term (⟨0,0,[],[]⟩:DCore):=rfl
  rw [e]
  unfold m_impl_SameCore_R
  rw [p_EqInt]
  unfold m_slices_EqualFunc_impl_Core_impl_Core_impl_Core_impl_Core
  simp only
  rw [bne_nat,valEq c.term.kind,valEq c.term.value,lnI0]
  have hd:decide (c.term.data=[])=decide (c.term.data.length=0):=decide_eq_decide.2 (by simp)
  rw [hd]
  by_cases hk:c.term.kids.length=0
  · have hz:c.term.kids=[]:=List.eq_nil_of_length_eq_zero hk
    have hl:m_slices_EqualFunc_impl_Core_impl_Core_impl_Core_impl_Core_L1 c.term.kids [] (fun x0 x1=>m_impl_SameCore g x0 x1) m_slices_EqualFunc_impl_Core_impl_Core_impl_Core_impl_Core_A1 (c.term.kids.length+1) 0=some true:=by
      rw [hz]; rfl
    rw [hl]
    rw [decide_eq_true hk,decide_eq_true (show c.term.kids.length=([] : List DCore).length from hk)]
    cases decide (c.term.kind=0) <;> cases decide (c.term.value=0) <;> cases decide (c.term.data.length=0) <;> rfl
  · rw [decide_eq_false hk,decide_eq_false (show ¬ c.term.kids.length=([] : List DCore).length from hk)]
    cases decide (c.term.kind=0) <;> cases decide (c.term.value=0) <;> cases decide (c.term.data.length=0) <;> rfl
def defsD (n:Int) (d:List Int):Bool:=d.all fun k=>inR k 0 (n - 1)
theorem p_sDefs (b:DBook) (d:List Int) (hb:b.defs.length≤1048576):m_spec_l09Defs b d=some (defsD (b.defs.length:Int) d):=by
  unfold m_spec_l09Defs defsD
  rw [loopA (L:=m_spec_l09Defs_L1 b d m_spec_l09Defs_A1) (d:=d) (p:=fun a=>inR a 0 ((b.defs.length:Int) - 1)) (no:=some false) (K:=some true)
      (fun g k hk=>by simp -implicitDefEqProofs only [m_spec_l09Defs_L1,m_spec_l09Defs_B1,dlt hk,cond_true,getI_lt hk,Option.bind_some,ck_ok (show -9223372036854775808≤(b.defs.length:Int) - 1∧(b.defs.length:Int) - 1≤9223372036854775807 by omega)])
      (fun g=>by simp -implicitDefEqProofs only [m_spec_l09Defs_L1,m_spec_l09Defs_B1,dge,cond_false,m_spec_l09Defs_A1])]
  cases (d.all fun a=>inR a 0 ((b.defs.length:Int) - 1)) <;> rfl
theorem p_iDefs (b:DBook) (d:List Int):m_impl_areDefs b d=some (defsD (b.defs.length:Int) d):=by
  unfold m_impl_areDefs defsD
  have hc:=p_contains_int d (fun x0=>m_impl_areDefs_1 x0 b) (fun a=>!inR a 0 ((b.defs.length:Int) - 1)) (fun z _=>by
    unfold m_impl_areDefs_1 inR
    have e1:decide (z < 0) = !decide (0≤z):=by rw [Bool.eq_iff_iff]; simp
    have e2:decide (z ≥ (b.defs.length:Int)) = !decide (z≤(b.defs.length:Int) - 1):=by rw [Bool.eq_iff_iff]; simp; omega
    rw [e1,e2]
    cases decide (0≤z) <;> rfl)
  rw [hc,Option.bind_some,not_any_not]
/-- A valid frame. -/
noncomputable def frD (n heap:Int) (f:DFrame):Bool:=
  if f.kind=3 then inR f.value 1 6 && (decide (f.data.length=0) && closD n heap f.closure)
  else blankD f.closure &&
    (if f.kind=1 ∨ f.kind=2 then inR f.value 0 (heap - 1) && decide (f.data.length=0)
    else if f.kind=4 then inR f.value 1 6 && (decide (f.data.length=1) && inR (f.data.headD 0) (-2147483648) 2147483647)
    else if f.kind=5 then decide (f.value=0) && ((decide (1≤f.data.length) && decide (f.data.length≤4)) && defsD n f.data)
    else if f.kind=6 then decide (f.value=0) && (decide (f.data.length=2) && defsD n f.data)
    else false)
theorem headG {d:List Int} (h:d.length=1):getI d 0=some (d.headD 0):=by
  match d,h with
  |[a],_=>rfl
theorem p_sFrame (b:DBook) (f:DFrame) (heap:Int) (hb:coSize f.closure.term≤4294967296) (he:f.closure.env.length≤1048576) (h0:0≤heap) (h1:heap≤1048576) (hd:b.defs.length≤1048576):m_spec_l09Frame b f heap=some (frD (b.defs.length:Int) heap f):=by
  unfold m_spec_l09Frame frD
  rw [p_sClosD b f.closure heap hb he h0 h1,p_sBlank,p_sDefs b f.data hd,ck_ok (by omega)]
  simp -implicitDefEqProofs only [Option.bind_some,lnI0,lnI1,lnI2,inR14,valEq f.kind,valEq f.value]
  by_cases k3:f.kind=3
  · rw [decide_eq_true k3,if_pos k3,cond_true]
    cases inR f.value 1 6 <;> cases decide (f.data.length=0) <;> rfl
  rw [decide_eq_false k3,if_neg k3,cond_false]
  cases hbl:blankD f.closure with
  |false=>rfl
  |true=>
  rw [cond_true,Bool.true_and]
  by_cases k1:f.kind=1
  · rw [decide_eq_true k1,if_pos (.inl k1),cond_true]
    cases inR f.value 0 (heap - 1) <;> rfl
  rw [decide_eq_false k1,cond_false]
  by_cases k2:f.kind=2
  · rw [decide_eq_true k2,if_pos (.inr k2),cond_true]
    cases inR f.value 0 (heap - 1) <;> rfl
  rw [decide_eq_false k2,cond_false,if_neg (by omega)]
  by_cases k4:f.kind=4
  · rw [decide_eq_true k4,if_pos k4,cond_true]
    by_cases hl:f.data.length=1
    · rw [headG hl,decide_eq_true hl]
      cases inR f.value 1 6 <;> rfl
    · rw [decide_eq_false hl]
      cases inR f.value 1 6 <;> rfl
  rw [decide_eq_false k4,if_neg k4,cond_false]
  by_cases k5:f.kind=5
  · rw [decide_eq_true k5,if_pos k5,cond_true]
    cases decide (f.value=0) <;> cases decide (1≤f.data.length) <;> cases decide (f.data.length≤4) <;> rfl
  rw [decide_eq_false k5,if_neg k5,cond_false]
  by_cases k6:f.kind=6
  · rw [decide_eq_true k6,if_pos k6,cond_true]
    cases decide (f.value=0) <;> cases decide (f.data.length=2) <;> rfl
  rw [decide_eq_false k6,if_neg k6,cond_false]
theorem etaF (c:DClosure):(⟨(⟨c.term.kind,c.term.value,c.term.data,c.term.kids⟩:DCore),c.env⟩:DClosure)=c:=by rw [etaC]
theorem p_iFrame (m:DNeed) (b:DBook) (f:DFrame) (hb:coSize f.closure.term≤4294967296) (he:f.closure.env.length≤1048576):m_impl_Need_validFrame m b f=some (frD (b.defs.length:Int) (m.heap.length:Int) f):=by
  unfold m_impl_Need_validFrame frD
  have g1:decide ((f.data.length:Int) ≥ 1)=decide (1≤f.data.length):=decide_eq_decide.2 (by omega)
  have g4:decide ((f.data.length:Int)≤4)=decide (f.data.length≤4):=decide_eq_decide.2 (by omega)
  rw [etaF,p_iClosD m b f.closure hb he,p_iBlank,p_iDefs b f.data,p_iAddr,p_isOper]
  simp -implicitDefEqProofs only [Option.bind_some,lnI0,lnI1,lnI2,g1,g4,valEq f.kind,valEq f.value,bneV,p_isInt]
  have eo:operB f.value=inR f.value 1 6:=rfl
  have ei :∀z,int32B z=inR z (-2147483648) 2147483647:=fun z=>rfl
  rw [eo]
  simp only [ei]
  by_cases k3:f.kind=3
  · have n1:decide (f.kind=1)=false:=decide_eq_false (by omega)
    have n2:decide (f.kind=2)=false:=decide_eq_false (by omega)
    rw [n1,n2,decide_eq_true k3,if_pos k3]
    cases inR f.value 1 6 <;> cases decide (f.data.length=0) <;> rfl
  rw [decide_eq_false k3,if_neg k3]
  rw [show (!false)=true from rfl,cond_true]
  cases hbl:blankD f.closure with
  |false=>rfl
  |true=>
  rw [cond_true,Bool.true_and]
  by_cases k1:f.kind=1
  · rw [decide_eq_true k1,if_pos (.inl k1),cond_true]
    cases inR f.value 0 ((m.heap.length:Int) - 1) <;> rfl
  rw [decide_eq_false k1,cond_false]
  by_cases k2:f.kind=2
  · rw [decide_eq_true k2,if_pos (.inr k2),cond_true]
    cases inR f.value 0 ((m.heap.length:Int) - 1) <;> rfl
  rw [decide_eq_false k2,cond_false,if_neg (by omega),cond_false]
  by_cases k4:f.kind=4
  · rw [decide_eq_true k4,if_pos k4,cond_true]
    by_cases hl:f.data.length=1
    · rw [headG hl,decide_eq_true hl]
      cases inR f.value 1 6 <;> rfl
    · rw [decide_eq_false hl]
      cases inR f.value 1 6 <;> rfl
  rw [decide_eq_false k4,if_neg k4,cond_false]
  by_cases k5:f.kind=5
  · rw [decide_eq_true k5,if_pos k5,cond_true]
    cases decide (f.value=0) <;> cases decide (1≤f.data.length) <;> cases decide (f.data.length≤4) <;> rfl
  rw [decide_eq_false k5,if_neg k5,cond_false]
  by_cases k6:f.kind=6
  · rw [decide_eq_true k6,if_pos k6,cond_true]
    cases decide (f.value=0) <;> cases decide (f.data.length=2) <;> rfl
  rw [decide_eq_false k6,if_neg k6,cond_false]
/-- A valid machine beside a book. -/
noncomputable def needD (b:DBook) (m:DNeed):Bool:=
  (bookD b && ((decide (m.heap.length≤2000) && decide (m.stack.length≤400)) && closD (b.defs.length:Int) (m.heap.length:Int) m.control)) && ((m.stack.all fun f=>frD (b.defs.length:Int) (m.heap.length:Int) f) && m.heap.all fun t=>closD (b.defs.length:Int) (m.heap.length:Int) t.closure && (!t.done||valD t.closure))
/-- All sizes are small. -/
structure SmallN (b:DBook) (m:DNeed):Prop where
  defs:b.defs.length≤1048576
  heap:m.heap.length≤1048576
  stack:m.stack.length≤1048576
  bk :∀x∈b.defs,coSize x≤4294967296
  ct:coSize m.control.term≤4294967296∧m.control.env.length≤1048576
  st :∀f∈m.stack,coSize f.closure.term≤4294967296∧f.closure.env.length≤1048576
  hp :∀t∈m.heap,coSize t.closure.term≤4294967296∧t.closure.env.length≤1048576
theorem p_sNeed (b:DBook) (m:DNeed) (S:SmallN b m):m_spec_l09Ok b m=some (needD b m):=by
  have hh:=S.heap
  unfold m_spec_l09Ok needD
  rw [p_sBook b S.bk,p_sClosD b m.control _ S.ct.1 S.ct.2 (by omega) (by omega),Option.bind_some,Option.bind_some]
  rw [loopA (L:=m_spec_l09Ok_L1 b m (m_spec_l09Ok_A1 b m)) (d:=m.stack) (p:=fun f=>frD (b.defs.length:Int) (m.heap.length:Int) f) (no:=some false) (K:=m_spec_l09Ok_A1 b m)
      (fun g k hk=>by
        have hy:=S.st _ (List.getElem_mem hk)
        simp -implicitDefEqProofs only [m_spec_l09Ok_L1,m_spec_l09Ok_B1,dlt hk,cond_true,getI_lt hk,Option.bind_some,p_sFrame b m.stack[k] (m.heap.length:Int) hy.1 hy.2 (by omega) (by omega) S.defs])
      (fun g=>by simp -implicitDefEqProofs only [m_spec_l09Ok_L1,m_spec_l09Ok_B1,dge,cond_false])]
  unfold m_spec_l09Ok_A1
  rw [loopA (L:=m_spec_l09Ok_L2 b m m_spec_l09Ok_A2) (d:=m.heap) (p:=fun t=>closD (b.defs.length:Int) (m.heap.length:Int) t.closure && (!t.done||valD t.closure)) (no:=some false) (K:=some true)
      (fun g k hk=>by
        have hy:=S.hp _ (List.getElem_mem hk)
        simp -implicitDefEqProofs only [m_spec_l09Ok_L2,m_spec_l09Ok_B2,dlt hk,cond_true,getI_lt hk,Option.bind_some,p_sClosD b m.heap[k].closure (m.heap.length:Int) hy.1 hy.2 (by omega) (by omega),p_sVal]
        cases closD (b.defs.length:Int) (m.heap.length:Int) m.heap[k].closure <;> cases m.heap[k].done <;> cases valD m.heap[k].closure <;> rfl)
      (fun g=>by simp -implicitDefEqProofs only [m_spec_l09Ok_L2,m_spec_l09Ok_B2,dge,cond_false,m_spec_l09Ok_A2])]
  have i1:decide ((m.heap.length:Int) > 2000) = !decide (m.heap.length≤2000):=by rw [Bool.eq_iff_iff]; simp; omega
  have i2:decide ((m.stack.length:Int) > 400) = !decide (m.stack.length≤400):=by rw [Bool.eq_iff_iff]; simp; omega
  rw [i1,i2]
  cases bookD b <;> cases decide (m.heap.length≤2000) <;> cases decide (m.stack.length≤400) <;> cases closD (b.defs.length:Int) (m.heap.length:Int) m.control <;> cases (m.stack.all fun f=>frD (b.defs.length:Int) (m.heap.length:Int) f) <;> cases (m.heap.all fun t=>closD (b.defs.length:Int) (m.heap.length:Int) t.closure && (!t.done||valD t.closure)) <;> rfl
theorem p_iNeed (b:DBook) (m:DNeed) (S:SmallN b m):m_impl_ValidNeed b m=some (needD b m):=by
  have hh:=S.heap
  unfold m_impl_ValidNeed needD
  rw [p_iBook b S.bk,etaF,p_iClosD m b m.control S.ct.1 S.ct.2,Option.bind_some,Option.bind_some]
  rw [loopA (L:=m_impl_ValidNeed_L1 b m (m_impl_ValidNeed_A1 b m)) (d:=m.heap) (p:=fun t=>closD (b.defs.length:Int) (m.heap.length:Int) t.closure && (!t.done||valD t.closure)) (no:=some false) (K:=m_impl_ValidNeed_A1 b m)
      (fun g k hk=>by
        have hy:=S.hp _ (List.getElem_mem hk)
        simp -implicitDefEqProofs only [m_impl_ValidNeed_L1,m_impl_ValidNeed_B1,dlt hk,cond_true,getI_lt hk,Option.bind_some,etaF,p_iClosD m b m.heap[k].closure hy.1 hy.2,p_iVal]
        cases closD (b.defs.length:Int) (m.heap.length:Int) m.heap[k].closure <;> cases m.heap[k].done <;> cases valD m.heap[k].closure <;> rfl)
      (fun g=>by simp -implicitDefEqProofs only [m_impl_ValidNeed_L1,m_impl_ValidNeed_B1,dge,cond_false])]
  unfold m_impl_ValidNeed_A1
  rw [p_contF (p:=fun f=>!frD (b.defs.length:Int) (m.heap.length:Int) f) (fun f hf=>by
    have hy:=S.st f hf
    unfold m_impl_ValidNeed_1
    rw [p_iFrame m b f hy.1 hy.2,Option.bind_some]),Option.bind_some,not_any_not]
  have i1:decide ((m.heap.length:Int) > 2000) = !decide (m.heap.length≤2000):=by rw [Bool.eq_iff_iff]; simp; omega
  have i2:decide ((m.stack.length:Int) > 400) = !decide (m.stack.length≤400):=by rw [Bool.eq_iff_iff]; simp; omega
  rw [i1,i2]
  cases bookD b <;> cases decide (m.heap.length≤2000) <;> cases decide (m.stack.length≤400) <;> cases closD (b.defs.length:Int) (m.heap.length:Int) m.control <;> cases (m.stack.all fun f=>frD (b.defs.length:Int) (m.heap.length:Int) f) <;> cases (m.heap.all fun t=>closD (b.defs.length:Int) (m.heap.length:Int) t.closure && (!t.done||valD t.closure)) <;> rfl
end
section
open Go.RowKit
/-- The cell a is marked. -/
def Mk (l:List Bool) (a:Int):Prop:=0≤a∧l[a.toNat]? = some true
/-- What the cell a reaches at once. -/
def envA (m:DNeed) (a:Int):List Int:=match m.heap[a.toNat]? with|some t=>t.closure.env|none=>[]
def InN (n:Nat) (xs:List Int):Prop:=∀a∈xs,0≤a∧a < (n:Int)
structure StepM (m:DNeed) (R:List Int) (l l':List Bool):Prop where
  len:l'.length=l.length
  mono :∀a,Mk l a→Mk l' a
  root :∀a∈R,Mk l' a
  clos:(∀a,Mk l a→∀e∈envA m a,Mk l e)→∀a,Mk l' a→∀e∈envA m a,Mk l' e
  least :∀P:Int→Prop,(∀a,P a→∀e∈envA m a,P e)→(∀a,Mk l a→P a)→(∀a∈R,P a)→∀a,Mk l' a→P a
theorem StepM.refl (m:DNeed) (l:List Bool):StepM m [] l l:=⟨rfl,fun _ h=>h,fun _ h=>(by cases h),fun h=>h,fun P _ h _=>h⟩
theorem StepM.trans {m:DNeed} {R1 R2:List Int} {l l1 l2:List Bool} (h1:StepM m R1 l l1) (h2:StepM m R2 l1 l2):StepM m (R1 ++ R2) l l2:=
  ⟨h2.len.trans h1.len, fun a h => h2.mono a (h1.mono a h), fun a h => (List.mem_append.1 h).elim (fun h => h2.mono a (h1.root a h)) (fun h => h2.root a h),
   fun h=>h2.clos (h1.clos h),fun P hP h0 hR=>h2.least P hP (h1.least P hP h0 (fun a ha=>hR a (List.mem_append_left _ ha))) (fun a ha=>hR a (List.mem_append_right _ ha))⟩
theorem StepM.uniq {m:DNeed} {R:List Int} {l l1 l2:List Bool} (h0 :∀a,¬ Mk l a) (h1:StepM m R l l1) (h2:StepM m R l l2):l1=l2:=by
  have hc :∀a,Mk l a→∀e∈envA m a,Mk l e:=fun a h=>absurd h (h0 a)
  have e12 :∀a,Mk l1 a→Mk l2 a:=h1.least (Mk l2) (h2.clos hc) (fun a h=>absurd h (h0 a)) h2.root
  have e21 :∀a,Mk l2 a→Mk l1 a:=h2.least (Mk l1) (h1.clos hc) (fun a h=>absurd h (h0 a)) h1.root
  have hl:l1.length=l2.length:=h1.len.trans h2.len.symm
  apply List.ext_getElem hl
  intro k hk hk2
  have a1:l1[k]? = some l1[k]:=List.getElem?_eq_getElem hk
  have a2:l2[k]? = some l2[k]:=List.getElem?_eq_getElem hk2
  cases b1:l1[k] with
  |true=>
    have:=(e12 (k:Int) ⟨by omega,by rw [Int.toNat_natCast,a1,b1]⟩).2
    rw [Int.toNat_natCast,a2] at this
    exact (Option.some.inj this).symm
  |false=>
    cases b2:l2[k] with
    |false=>rfl
    |true=>
      have:=(e21 (k:Int) ⟨by omega,by rw [Int.toNat_natCast,a2,b2]⟩).2
      rw [Int.toNat_natCast,a1,b1] at this
      cases this
theorem mk_set {l:List Bool} {k:Nat} (hk:k < l.length) (b:Int):Mk (l.set k true) b↔b=(k:Int) ∨ Mk l b:=by
  unfold Mk
  constructor
  · rintro ⟨h0,h⟩
    rw [List.getElem?_set] at h
    by_cases e:k=b.toNat
    · exact .inl (by omega)
    · rw [if_neg e] at h; exact .inr ⟨h0,h⟩
  · rintro (h|⟨h0,h⟩)
    · subst h
      exact ⟨by omega,by rw [Int.toNat_natCast,List.getElem?_set_self hk]⟩
    · refine ⟨h0,?_⟩
      rw [List.getElem?_set]
      split
      · first|rfl|(rw [if_pos hk])
      · exact h
theorem nat_of {n:Nat} {a:Int} (h:0≤a∧a < (n:Int)) :∃k:Nat,a=(k:Int)∧k < n:=⟨a.toNat,by omega,by omega⟩
/-- How many addresses the cells not yet marked hold. -/
def unE:List Bool→List DThunk→Nat
  |b :: bs,t :: ts=>(bif b then 0 else t.closure.env.length)+unE bs ts
  |_,_=>0
theorem unE_set :∀(l:List Bool) (hp:List DThunk) (k:Nat) (t:DThunk),l[k]? = some false→hp[k]? = some t→unE (l.set k true) hp+t.closure.env.length=unE l hp
  |[],_,k,_,h,_=>by simp at h
  |b :: bs,[],k,_,_,h=>by simp at h
  |b :: bs,t' :: ts,0,t,h,h'=>by
    simp at h h'
    subst h; subst h'
    simp [unE]; omega
  |b :: bs,t' :: ts,k+1,t,h,h'=>by
    have:=unE_set bs ts k t (by simpa using h) (by simpa using h')
    simp only [List.set_cons_succ,unE]
    omega
theorem unE_le :∀(l:List Bool) (hp:List DThunk),unE l hp≤(hp.map fun t=>t.closure.env.length).sum
  |[],hp=>by unfold unE; exact Nat.zero_le _
  |b :: bs,[]=>by unfold unE; exact Nat.zero_le _
  |b :: bs,t :: ts=>by
    have:=unE_le bs ts
    rw [unE,List.map_cons,List.sum_cons]
    cases b <;> simp <;> omega
/-- All addresses are in range. -/
structure GoodM (m:DNeed):Prop where
  small:m.heap.length≤2000
  hp :∀t∈m.heap,InN m.heap.length t.closure.env∧t.closure.env.length≤256
  ct:InN m.heap.length m.control.env∧m.control.env.length≤256
  st :∀f∈m.stack,(InN m.heap.length f.closure.env∧f.closure.env.length≤256)∧(f.kind=1 ∨ f.kind=2→0≤f.value∧f.value < (m.heap.length:Int))
theorem GoodM.envs_le {m:DNeed} (G:GoodM m):envs m≤512000:=by
  have key :∀ts:List DThunk,(∀t∈ts,t.closure.env.length≤256)→(ts.map fun t=>t.closure.env.length).sum≤256 * ts.length:=by
    intro ts
    induction ts with
    |nil=>intro _; simp
    |cons t ts ih=>
      intro h
      have h1:=h t (by simp)
      have h2:=ih (fun y hy=>h y (by simp [hy]))
      rw [List.map_cons,List.sum_cons,List.length_cons]
      omega
  have h1:=key m.heap (fun t ht=>(G.hp t ht).2)
  have h2:=G.small
  unfold envs
  omega
theorem GoodM.env {m:DNeed} (G:GoodM m) (a:Int):InN m.heap.length (envA m a):=by
  unfold envA
  cases h:m.heap[a.toNat]? with
  |none=>intro e he; cases he
  |some t=>exact (G.hp t (List.mem_of_getElem? h)).1
theorem envA_of {m:DNeed} {k:Nat} {t:DThunk} (h:m.heap[k]? = some t):envA m (k:Int)=t.closure.env:=by unfold envA; rw [Int.toNat_natCast,h]
theorem markL {m:DNeed} (G:GoodM m) :∀(g:Nat) (l:List Bool) (todo:List Int),l.length=m.heap.length→InN m.heap.length todo→todo.length+unE l m.heap < g→todo.length+unE l m.heap≤1000000→
    ∃l',m_spec_l09Mark_L1 m m_spec_l09Mark_A1 g l todo=some l'∧l'.length=l.length∧(∀a,Mk l a→Mk l' a)∧(∀a∈todo,Mk l' a)∧((∀a,Mk l a→∀e∈envA m a,Mk l e ∨ e∈todo)→∀a,Mk l' a→∀e∈envA m a,Mk l' e)∧
      ∀P:Int→Prop,(∀a,P a→∀e∈envA m a,P e)→(∀a,Mk l a→P a)→(∀a∈todo,P a)→∀a,Mk l' a→P a
  |0,l,todo,_,_,h,_=>by omega
  |g+1,l,todo,hl,hr,hg,hb=>by
    have e:m_spec_l09Mark_L1 m m_spec_l09Mark_A1 (g+1) l todo=m_spec_l09Mark_B1 m (m_spec_l09Mark_L1 m m_spec_l09Mark_A1 g) m_spec_l09Mark_A1 l todo:=rfl
    rw [e]
    unfold m_spec_l09Mark_B1
    rcases List.eq_nil_or_concat todo with rfl|⟨ts,a,htd⟩
    · refine ⟨l,rfl,rfl,fun _ h=>h,fun _ h=>(by cases h),fun h a ha e he=>?_,fun P _ h _=>h⟩
      rcases h a ha e he with h|h
      · exact h
      · cases h
    · first|(rw [List.concat_eq_append] at htd; subst htd)|subst htd
      simp only [List.length_append,List.length_singleton] at hg hb ⊢
      obtain ⟨k,rfl,hk⟩:=nat_of (hr a (by simp))
      have hkl:k < l.length:=by omega
      have hts:InN m.heap.length ts:=fun b hb=>hr b (by simp [hb])
      have hsub:((ts.length+1:Nat):Int) - 1=(ts.length:Int):=by omega
      have hpos:decide (((ts.length+1:Nat):Int) > 0)=true:=decide_eq_true (by omega)
      have hlast:getI (ts ++ [(k:Int)]) (ts.length:Int)=some (k:Int):=by
        rw [getI_nat (x:=(k:Int)) (by simp)]
      have htake:(ts ++ [(k:Int)]).take ((ts.length:Int)).toNat=ts:=by rw [Int.toNat_natCast,List.take_left]
      rw [hpos,cond_true,hsub,ck_ok (by omega),Option.bind_some,hlast,Option.bind_some,Option.bind_some,mustP_ok (by constructor <;> omega),Option.bind_some,htake,getI_lt hkl,Option.bind_some,Option.bind_some]
      have hx:l[k]? = some l[k]:=List.getElem?_eq_getElem hkl
      cases hm:l[k] with
      |true=>
        rw [cond_true]
        have hmk:Mk l (k:Int):=⟨by omega,by rw [Int.toNat_natCast,hx,hm]⟩
        obtain ⟨l',h1,h2,h3,h4,h5,h6⟩:=markL G g l ts hl hts (by omega) (by omega)
        refine ⟨l',h1,h2,h3,fun b hb=>?_,fun hc=>h5 (fun b hb e he=>?_),fun P hP h0 ht=>h6 P hP h0 (fun b hb=>ht b (by simp [hb]))⟩
        · rcases List.mem_append.1 hb with hb|hb
          · exact h4 b hb
          · simp at hb; subst hb; exact h3 _ hmk
        · rcases hc b hb e he with h|h
          · exact .inl h
          · rcases List.mem_append.1 h with h|h
            · exact .inr h
            · simp at h; subst h; exact .inl hmk
      |false=>
        rw [cond_false]
        have ht:m.heap[k]? = some m.heap[k]:=List.getElem?_eq_getElem hk
        rw [getI_nat ht,Option.bind_some]
        have hen:=envA_of ht
        have hun:=unE_set l m.heap k m.heap[k] (by rw [hx,hm]) ht
        rw [mustP_ok (by omega),Option.bind_some]
        have hset:setI l (k:Int) true=l.set k true:=by unfold setI; simp
        rw [hset]
        obtain ⟨l',h1,h2,h3,h4,h5,h6⟩:=markL G g (l.set k true) (ts ++ m.heap[k].closure.env) (by simpa using hl) (fun b hb=>by
          rcases List.mem_append.1 hb with hb|hb
          · exact hts b hb
          · exact (G.hp _ (List.getElem_mem hk)).1 b hb) (by rw [List.length_append]; omega) (by rw [List.length_append]; omega)
        have hak:Mk (l.set k true) (k:Int):=(mk_set hkl _).2 (.inl rfl)
        refine ⟨l',h1,by simpa using h2,fun b hb=>h3 b ((mk_set hkl b).2 (.inr hb)),fun b hb=>?_,fun hc=>h5 (fun b hb e he=>?_),fun P hP h0 ht'=>h6 P hP (fun b hb=>?_) (fun b hb=>?_)⟩
        · rcases List.mem_append.1 hb with hb|hb
          · exact h4 b (List.mem_append_left _ hb)
          · simp at hb; subst hb; exact h3 _ hak
        · rcases (mk_set hkl b).1 hb with rfl|hb
          · rw [hen] at he; exact .inr (List.mem_append_right _ he)
          · rcases hc b hb e he with h|h
            · exact .inl ((mk_set hkl e).2 (.inr h))
            · rcases List.mem_append.1 h with h|h
              · exact .inr (List.mem_append_left _ h)
              · simp at h; subst h; exact .inl hak
        · rcases (mk_set hkl b).1 hb with rfl|hb
          · exact ht' _ (by simp)
          · exact h0 b hb
        · rcases List.mem_append.1 hb with hb|hb
          · exact ht' b (by simp [hb])
          · exact hP (k:Int) (ht' _ (by simp)) b (by rw [hen]; exact hb)
theorem p_sMark {m:DNeed} (G:GoodM m) (l:List Bool) (env:List Int) (hl:l.length=m.heap.length) (hr:InN m.heap.length env) (hs:env.length≤256) :∃l',m_spec_l09Mark m l env=some l'∧StepM m env l l':=by
  have hE:=G.envs_le
  have hu:=unE_le l m.heap
  have hu':unE l m.heap≤envs m:=hu
  unfold m_spec_l09Mark m_spec_l00Own
  rw [mustP_ok (by simp; omega),Option.bind_some,Option.bind_some,List.nil_append]
  obtain ⟨l',h1,h2,h3,h4,h5,h6⟩:=markL G ((envs m+env.length)+2) l env hl hr (by omega) (by omega)
  exact ⟨l',h1,h2,h3,h4,fun hc=>h5 (fun a ha e he=>.inl (hc a ha e he)),h6⟩
def rootsF (f:DFrame):List Int:=(bif f.kind==1||f.kind==2 then [f.value] else []) ++ f.closure.env
def rootsM (m:DNeed):List Int:=m.control.env ++ m.stack.flatMap rootsF
theorem p_sLive {m:DNeed} (G:GoodM m) :∃l',m_spec_l09Live m=some l'∧StepM m (rootsM m) (List.replicate m.heap.length false) l':=by
  have key :∀(q k g:Nat) (l:List Bool),k+q=m.stack.length→q < g→l.length=m.heap.length→∃l',m_spec_l09Live_L1 m m_spec_l09Live_A1 g l (k:Int)=some l'∧StepM m ((m.stack.drop k).flatMap rootsF) l l':=by
    intro q
    induction q with
    |zero=>
      intro k g l hk hg hl
      obtain ⟨g,rfl⟩ :∃g',g=g'+1:=⟨g - 1,by omega⟩
      refine ⟨l,?_,?_⟩
      · rw [show k=m.stack.length by omega]
        simp -implicitDefEqProofs only [m_spec_l09Live_L1,m_spec_l09Live_B1,dge,cond_false,m_spec_l09Live_A1]
      · rw [show k=m.stack.length by omega,List.drop_length]; exact StepM.refl m l
    |succ q ih=>
      intro k g l hk hg hl
      obtain ⟨g,rfl⟩ :∃g',g=g'+1:=⟨g - 1,by omega⟩
      have hkl:k < m.stack.length:=by omega
      have hst:=G.st _ (List.getElem_mem hkl)
      have e:m_spec_l09Live_L1 m m_spec_l09Live_A1 (g+1) l (k:Int)=m_spec_l09Live_B1 m (m_spec_l09Live_L1 m m_spec_l09Live_A1 g) m_spec_l09Live_A1 l (k:Int):=rfl
      rw [e]
      unfold m_spec_l09Live_B1
      rw [dlt hkl,cond_true,getI_lt hkl,Option.bind_some,List.drop_eq_getElem_cons hkl,List.flatMap_cons,show ((k:Int)+1)=((k+1:Nat):Int) by omega]
      have two:(m.stack[k].kind=1 ∨ m.stack[k].kind=2)→∃l',((m_spec_l09Mark m l [m.stack[k].value]).bind fun y=>(m_spec_l09Mark m y m.stack[k].closure.env).bind fun y2=>m_spec_l09Live_L1 m m_spec_l09Live_A1 g y2 ((k+1:Nat):Int))=some l'∧StepM m (rootsF m.stack[k] ++ (m.stack.drop (k+1)).flatMap rootsF) l l':=fun hk12=>by
        obtain ⟨l1,e1,s1⟩:=p_sMark G l [m.stack[k].value] hl (fun a ha=>by simp at ha; subst ha; exact hst.2 hk12) (by simp)
        obtain ⟨l2,e2,s2⟩:=p_sMark G l1 m.stack[k].closure.env (s1.len.trans hl) hst.1.1 hst.1.2
        obtain ⟨l3,e3,s3⟩:=ih (k+1) g l2 (by omega) (by omega) (s2.len.trans (s1.len.trans hl))
        refine ⟨l3,by rw [e1,Option.bind_some,e2,Option.bind_some,e3],?_⟩
        have hrf:rootsF m.stack[k] = [m.stack[k].value] ++ m.stack[k].closure.env:=by
          unfold rootsF
          rcases hk12 with h|h <;> simp [h]
        rw [hrf]
        exact (s1.trans s2).trans s3
      by_cases k1:m.stack[k].kind=1
      · rw [show (m.stack[k].kind==1)=true by simp [k1],cond_true]
        exact two (.inl k1)
      rw [show (m.stack[k].kind==1)=false by simp [k1],cond_false]
      by_cases k2:m.stack[k].kind=2
      · rw [show (m.stack[k].kind==2)=true by simp [k2],cond_true]
        exact two (.inr k2)
      rw [show (m.stack[k].kind==2)=false by simp [k2],cond_false]
      obtain ⟨l2,e2,s2⟩:=p_sMark G l m.stack[k].closure.env hl hst.1.1 hst.1.2
      obtain ⟨l3,e3,s3⟩:=ih (k+1) g l2 (by omega) (by omega) (s2.len.trans hl)
      refine ⟨l3,by rw [e2,Option.bind_some,e3],?_⟩
      have hrf:rootsF m.stack[k] = m.stack[k].closure.env:=by
        unfold rootsF
        rw [show (m.stack[k].kind==1)=false by simp [k1],show (m.stack[k].kind==2)=false by simp [k2]]; rfl
      rw [hrf]
      exact s2.trans s3
  have hs:=G.small
  unfold m_spec_l09Live
  rw [mustP_ok (by omega),Option.bind_some]
  obtain ⟨l1,e1,s1⟩:=p_sMark G (List.replicate m.heap.length false) m.control.env (by simp) G.ct.1 G.ct.2
  obtain ⟨l2,e2,s2⟩:=key m.stack.length 0 (m.stack.length+1) l1 (by omega) (by omega) (by rw [s1.len]; simp)
  refine ⟨l2,by rw [e1,Option.bind_some]; exact e2,?_⟩
  rw [List.drop_zero] at s2
  exact s1.trans s2
theorem mkM_app :∀(xs ys:List Int) (l:List Bool) (q:List Int),mkM (xs ++ ys) l q=(mkM xs l q).bind fun s=>mkM ys s.1 s.2
  |[],ys,l,q=>rfl
  |x :: xs,ys,l,q=>by
    show ((getI l x).bind fun b=>bif b then mkM (xs ++ ys) l q else (mustP (q.length+1≤4294967296)).bind fun _=>mkM (xs ++ ys) (setI l x true) (q ++ [x]))=(((getI l x).bind fun b=>bif b then mkM xs l q else (mustP (q.length+1≤4294967296)).bind fun _=>mkM xs (setI l x true) (q ++ [x]))).bind fun s=>mkM ys s.1 s.2
    cases getI l x with
    |none=>rfl
    |some b=>
      rw [Option.bind_some,Option.bind_some]
      cases b with
      |true=>exact mkM_app xs ys l q
      |false=>
        rw [cond_false,cond_false]
        cases mustP (q.length+1≤4294967296) with
        |none=>rfl
        |some u=>exact mkM_app xs ys _ _
theorem stM_eq :∀(fs:List DFrame) (l:List Bool) (q:List Int),stM fs l q=mkM (fs.flatMap rootsF) l q
  |[],l,q=>rfl
  |f :: fs,l,q=>by
    rw [List.flatMap_cons,rootsF,List.append_assoc,mkM_app,stM]
    have e:(bif f.kind==1||f.kind==2 then mkM [f.value] l q else some (l,q))=mkM (bif f.kind==1||f.kind==2 then [f.value] else []) l q:=by
      cases (f.kind==1||f.kind==2) <;> rfl
    rw [e]
    congr 1
    funext s
    rw [mkM_app]
    congr 1
    funext s2
    exact stM_eq fs s2.1 s2.2
theorem cnt_set :∀(l:List Bool) (k:Nat),l[k]? = some false→(l.set k true).count false+1=l.count false
  |[],k,h=>by simp at h
  |b :: bs,0,h=>by simp at h; subst h; simp
  |b :: bs,k+1,h=>by
    have:=cnt_set bs k (by simpa using h)
    simp only [List.set_cons_succ,List.count_cons]
    omega
structure MkD (xs:List Int) (l:List Bool) (q:List Int) (l':List Bool) (q':List Int):Prop where
  len:l'.length=l.length
  mono :∀a,Mk l a→Mk l' a
  root :∀a∈xs,Mk l' a
  only :∀a,Mk l' a→Mk l a ∨ a∈xs
  sub :∀a∈q,a∈q'
  inq :∀a∈q',a∈q ∨ Mk l' a
  new :∀a,Mk l' a→Mk l a ∨ a∈q'
  cnt:q'.length+l'.count false=q.length+l.count false
theorem p_mkM {n:Nat} :∀(xs:List Int) (l:List Bool) (q:List Int),l.length=n→InN n xs→q.length+l.count false≤4294967296→∃l' q',mkM xs l q=some (l',q')∧MkD xs l q l' q'
  |[],l,q,hl,hr,hb=>⟨l,q,rfl,rfl,fun _ h=>h,fun _ h=>(by cases h),fun _ h=>.inl h,fun _ h=>h,fun _ h=>.inl h,fun _ h=>.inl h,rfl⟩
  |x :: xs,l,q,hl,hr,hb=>by
    obtain ⟨k,rfl,hk⟩:=nat_of (hr x (by simp))
    have hkl:k < l.length:=by omega
    have hx:l[k]? = some l[k]:=List.getElem?_eq_getElem hkl
    have hxs:InN n xs:=fun a ha=>hr a (by simp [ha])
    have e:mkM ((k:Int) :: xs) l q=(getI l (k:Int)).bind fun b=>bif b then mkM xs l q else (mustP (q.length+1≤4294967296)).bind fun _=>mkM xs (setI l (k:Int) true) (q ++ [(k:Int)]):=rfl
    rw [e,getI_lt hkl,Option.bind_some]
    cases hm:l[k] with
    |true=>
      have hmk:Mk l (k:Int):=⟨by omega,by rw [Int.toNat_natCast,hx,hm]⟩
      obtain ⟨l',q',h1,M⟩:=p_mkM xs l q hl hxs hb
      exact ⟨l',q',h1,M.len,M.mono,fun a ha=>by
        rcases List.mem_cons.1 ha with rfl|ha
        · exact M.mono _ hmk
        · exact M.root a ha,fun a ha=>(M.only a ha).imp id (fun h=>List.mem_cons_of_mem _ h),M.sub,M.inq,M.new,M.cnt⟩
    |false=>
      have hc:=cnt_set l k (by rw [hx,hm])
      rw [cond_false,mustP_ok (by omega),Option.bind_some]
      have hset:setI l (k:Int) true=l.set k true:=by unfold setI; simp
      rw [hset]
      obtain ⟨l',q',h1,M⟩:=p_mkM xs (l.set k true) (q ++ [(k:Int)]) (by simpa using hl) hxs (by rw [List.length_append]; simp; omega)
      have hak:Mk (l.set k true) (k:Int):=(mk_set hkl _).2 (.inl rfl)
      refine ⟨l',q',h1,by simpa using M.len,fun a ha=>M.mono a ((mk_set hkl a).2 (.inr ha)),fun a ha=>?_,fun a ha=>?_,fun a ha=>M.sub a (by simp [ha]),fun a ha=>?_,fun a ha=>?_,?_⟩
      · rcases List.mem_cons.1 ha with rfl|ha
        · exact M.mono _ hak
        · exact M.root a ha
      · rcases M.only a ha with h|h
        · rcases (mk_set hkl a).1 h with rfl|h
          · exact .inr (by simp)
          · exact .inl h
        · exact .inr (List.mem_cons_of_mem _ h)
      · rcases M.inq a ha with h|h
        · rcases List.mem_append.1 h with h|h
          · exact .inl h
          · simp at h; subst h; exact .inr (M.mono _ hak)
        · exact .inr h
      · rcases M.new a ha with h|h
        · rcases (mk_set hkl a).1 h with rfl|h
          · exact .inr (M.sub _ (by simp))
          · exact .inl h
        · exact .inr h
      · have:=M.cnt
        rw [List.length_append] at this
        simp at this
        omega
theorem dqL {m:DNeed} (G:GoodM m) :∀(g:Nat) (l:List Bool) (q:List Int),l.length=m.heap.length→(∀a∈q,Mk l a)→(∀a,Mk l a→a∈q ∨∀e∈envA m a,Mk l e)→q.length+l.count false < g→q.length+l.count false≤4294967296→
    ∃l',dqM m g l q=some l'∧l'.length=l.length∧(∀a,Mk l a→Mk l' a)∧(∀a,Mk l' a→∀e∈envA m a,Mk l' e)∧∀P:Int→Prop,(∀a,P a→∀e∈envA m a,P e)→(∀a,Mk l a→P a)→∀a,Mk l' a→P a
  |0,l,q,_,_,_,h,_=>by omega
  |g+1,l,[],hl,hq,hc,hg,hb=>⟨l,rfl,rfl,fun _ h=>h,fun a ha=>(hc a ha).resolve_left (fun h=>by cases h),fun P _ h=>h⟩
  |g+1,l,a :: q,hl,hq,hc,hg,hb=>by
    have ha:=hq a (by simp)
    have hlt:a.toNat < l.length:=lt_of_some ha.2
    obtain ⟨k,rfl,hk⟩:=nat_of (n:=m.heap.length) (a:=a) ⟨ha.1,by omega⟩
    have ht:m.heap[k]? = some m.heap[k]:=List.getElem?_eq_getElem hk
    have hen:=envA_of ht
    have e:dqM m (g+1) l ((k:Int) :: q)=(getI m.heap (k:Int)).bind fun t=>(mkM t.closure.env l q).bind fun s=>dqM m g s.1 s.2:=rfl
    rw [e,getI_nat ht,Option.bind_some]
    rw [List.length_cons] at hg hb
    obtain ⟨l1,q1,e1,M⟩:=p_mkM (n:=m.heap.length) m.heap[k].closure.env l q hl (G.hp _ (List.getElem_mem hk)).1 (by omega)
    rw [e1,Option.bind_some]
    have hcnt:=M.cnt
    obtain ⟨l',h1,h2,h3,h4,h5⟩:=dqL G g l1 q1 (M.len.trans hl) (fun b hb=>by
        rcases M.inq b hb with h|h
        · exact M.mono b (hq b (by simp [h]))
        · exact h)
      (fun b hb=>by
        rcases M.new b hb with h|h
        · rcases hc b h with h'|h'
          · rcases List.mem_cons.1 h' with rfl|h'
            · exact .inr (fun e he=>M.root e (by rw [← hen]; exact he))
            · exact .inl (M.sub b h')
          · exact .inr (fun e he=>M.mono e (h' e he))
        · exact .inl h) (by omega) (by omega)
    refine ⟨l',h1,h2.trans M.len,fun b hb=>h3 b (M.mono b hb),h4,fun P hP h0=>h5 P hP (fun b hb=>?_)⟩
    rcases M.only b hb with h|h
    · exact h0 b h
    · exact hP (k:Int) (h0 _ ha) b (by rw [hen]; exact h)
theorem rootsIn {m:DNeed} (G:GoodM m):InN m.heap.length (rootsM m):=fun a ha=>by
  unfold rootsM at ha
  rcases List.mem_append.1 ha with ha|ha
  · exact G.ct.1 a ha
  · obtain ⟨f,hf,ha⟩:=List.mem_flatMap.1 ha
    have hst:=G.st f hf
    unfold rootsF at ha
    rcases List.mem_append.1 ha with ha|ha
    · cases hk:(f.kind==1||f.kind==2) with
      |false=>rw [hk] at ha; cases ha
      |true=>
        rw [hk] at ha
        simp at ha hk
        subst ha
        exact hst.2 hk
    · exact hst.1.1 a ha
theorem none_mk (n:Nat) (a:Int):¬ Mk (List.replicate n false) a:=fun h=>by
  have:=h.2
  rw [List.getElem?_replicate] at this
  split at this
  · cases this
  · cases this
theorem p_iLive {m:DNeed} (G:GoodM m) :∃l',m_impl_Need_live (m.heap.length+2) m=some l'∧StepM m (rootsM m) (List.replicate m.heap.length false) l':=by
  have hs:=G.small
  unfold m_impl_Need_live
  rw [mustP_ok (by omega),Option.bind_some]
  have hr:=rootsIn G
  obtain ⟨l1,q1,e1,M⟩:=p_mkM (n:=m.heap.length) (rootsM m) (List.replicate m.heap.length false) [] (by simp) hr (by simp; omega)
  have e2:(mkM m.control.env (List.replicate m.heap.length false) []).bind (fun s0=>(stM m.stack s0.1 s0.2).bind fun s1=>dqM m (m.heap.length+2) s1.1 s1.2)=dqM m (m.heap.length+2) l1 q1:=by
    have:((mkM m.control.env (List.replicate m.heap.length false) []).bind fun s0=>stM m.stack s0.1 s0.2)=some (l1,q1):=by
      rw [← e1]
      unfold rootsM
      rw [mkM_app]
      congr 1
      funext s
      exact stM_eq _ _ _
    rw [← Option.bind_assoc,this,Option.bind_some]
  rw [e2]
  have hcnt:=M.cnt
  simp only [List.length_nil,List.count_replicate_self,Nat.zero_add] at hcnt
  obtain ⟨l',h1,h2,h3,h4,h5⟩:=dqL G (m.heap.length+2) l1 q1 (by rw [M.len]; simp) (fun a ha=>(M.inq a ha).resolve_left (fun h=>by cases h)) (fun a ha=>.inl ((M.new a ha).resolve_left (none_mk _ a))) (by omega) (by omega)
  refine ⟨l',h1,h2.trans M.len,fun a ha=>absurd ha (none_mk _ a),fun a ha=>h3 a (M.root a ha),fun _=>h4,fun P hP h0 hR=>h5 P hP (fun a ha=>hR a ((M.only a ha).resolve_left (none_mk _ a)))⟩
theorem needGood {b:DBook} {m:DNeed} (h:needD b m=true):GoodM m:=by
  unfold needD at h
  simp only [Bool.and_eq_true,List.all_eq_true,decide_eq_true_eq] at h
  obtain ⟨⟨_,⟨h1,h2⟩,h3⟩,h4,h5⟩:=h
  have cl :∀c:DClosure,closD (b.defs.length:Int) (m.heap.length:Int) c=true→InN m.heap.length c.env∧c.env.length≤256:=fun c hc=>by
    unfold closD at hc
    simp only [Bool.and_eq_true,List.all_eq_true,decide_eq_true_eq] at hc
    refine ⟨fun a ha=>?_,hc.2.1⟩
    have:=hc.2.2 a ha
    unfold inR at this
    simp at this
    omega
  refine ⟨h1,fun t ht=>cl _ (h5 t ht).1,cl _ h3,fun f hf=>?_⟩
  have hfr:=h4 f hf
  unfold frD at hfr
  split at hfr
  · rename_i k3
    simp only [Bool.and_eq_true] at hfr
    exact ⟨cl _ hfr.2.2,fun hk=>by omega⟩
  · simp only [Bool.and_eq_true] at hfr
    refine ⟨?_,fun hk=>?_⟩
    · have hb:=hfr.1
      unfold blankD at hb
      simp only [Bool.and_eq_true,decide_eq_true_eq] at hb
      have he:f.closure.env=[]:=List.eq_nil_of_length_eq_zero hb.2
      rw [he]
      exact ⟨fun a ha=>(by cases ha),(by simp)⟩
    · have h2:=hfr.2
      rw [if_pos hk] at h2
      simp only [Bool.and_eq_true] at h2
      have:=h2.1
      unfold inR at this
      simp at this
      omega
def idxT:List Bool→Nat→List Int
  |[],_=>[]
  |b :: bs,k=>bif b then (k:Int) :: idxT bs (k+1) else idxT bs (k+1)
theorem idxT_len :∀(l:List Bool) (k:Nat),(idxT l k).length≤l.length
  |[],k=>Nat.le_refl _
  |b :: bs,k=>by
    have:=idxT_len bs (k+1)
    rw [idxT]
    cases b <;> simp <;> omega
theorem loopIdx {L:Nat→List Int→Int→Option (List Int × Int)} {l:List Bool} (h :∀g xs (k:Nat) (hk:k < l.length),L (g+1) xs (k:Int)=bif l[k] then (mustP (xs.length+[(k:Int)].length≤4294967296)).bind fun _=>L g (xs ++ [(k:Int)]) ((k:Int)+1) else L g xs ((k:Int)+1)) (he :∀g xs,L (g+1) xs (l.length:Int)=some (xs,0)) (hn:l.length≤4294967295):L (l.length+1) [] 0=some (idxT l 0,0):=by
  have key :∀(q k g:Nat) (xs:List Int),k+q=l.length→q < g→xs.length≤k→L g xs (k:Int)=some (xs ++ idxT (l.drop k) k,0):=by
    intro q
    induction q with
    |zero=>
      intro k g xs hk hg hx
      obtain ⟨g,rfl⟩ :∃g',g=g'+1:=⟨g - 1,by omega⟩
      rw [show k=l.length by omega,he,List.drop_length,idxT,List.append_nil]
    |succ q ih=>
      intro k g xs hk hg hx
      obtain ⟨g,rfl⟩ :∃g',g=g'+1:=⟨g - 1,by omega⟩
      have hl:k < l.length:=by omega
      rw [h g xs k hl,List.drop_eq_getElem_cons hl,idxT,show ((k:Int)+1)=((k+1:Nat):Int) by omega]
      cases l[k] with
      |true=>rw [cond_true,cond_true,mustP_ok (by simp; omega),Option.bind_some,ih (k+1) g _ (by omega) (by omega) (by simp; omega),List.append_assoc]; rfl
      |false=>rw [cond_false,cond_false,ih (k+1) g _ (by omega) (by omega) (by omega)]
  have:=key l.length 0 (l.length+1) [] (by omega) (by omega) (by simp)
  simpa using this
/-- The live cells of a valid machine. -/
noncomputable def liveT (b:DBook) (m:DNeed):List Int × Int:=bif needD b m then (idxT ((m_spec_l09Live m).getD []) 0,0) else ([],1)
theorem liveT_len (b:DBook) (m:DNeed):(liveT b m).1.length≤2000:=by
  unfold liveT
  cases h:needD b m with
  |false=>simp
  |true=>
    have G:=needGood h
    obtain ⟨l,e,S⟩:=p_sLive G
    rw [e]
    have h1:=idxT_len l 0
    have h2:=S.len
    have h3:=G.small
    simp at h2
    simp
    omega
theorem p_sLiveThunks (b:DBook) (m:DNeed) (S:SmallN b m):m_spec_LiveThunks b m=some (liveT b m):=by
  unfold m_spec_LiveThunks liveT
  rw [p_sNeed b m S,Option.bind_some]
  cases h:needD b m with
  |false=>rfl
  |true=>
    have G:=needGood h
    obtain ⟨l,e,St⟩:=p_sLive G
    have hl:=St.len
    have hs:=G.small
    simp at hl
    rw [cond_true,cond_true,e,Option.bind_some,Option.getD_some]
    exact loopIdx (L:=m_spec_LiveThunks_L1 l m_spec_LiveThunks_A1) (l:=l)
      (fun g xs k hk=>by simp -implicitDefEqProofs only [m_spec_LiveThunks_L1,m_spec_LiveThunks_B1,dlt hk,cond_true,getI_lt hk,Option.bind_some])
      (fun g xs=>by simp -implicitDefEqProofs only [m_spec_LiveThunks_L1,m_spec_LiveThunks_B1,dge,cond_false,m_spec_LiveThunks_A1]) (by omega)
theorem live_same {m:DNeed} (G:GoodM m):m_impl_Need_live (m.heap.length+2) m=m_spec_l09Live m:=by
  obtain ⟨l1,e1,S1⟩:=p_iLive G
  obtain ⟨l2,e2,S2⟩:=p_sLive G
  rw [e1,e2,S1.uniq (none_mk _) S2]
theorem p_iLiveThunks (b:DBook) (m:DNeed) (S:SmallN b m):m_impl_LiveThunks b m=some (liveT b m):=by
  unfold m_impl_LiveThunks liveT
  rw [p_iNeed b m S,Option.bind_some]
  cases h:needD b m with
  |false=>rfl
  |true=>
    have G:=needGood h
    obtain ⟨l,e,St⟩:=p_sLive G
    have hl:=St.len
    have hs:=G.small
    simp at hl
    rw [cond_true,cond_true,live_same G,e,Option.bind_some,Option.getD_some]
    exact loopIdx (L:=m_impl_LiveThunks_L1 l m_impl_LiveThunks_A1) (l:=l)
      (fun g xs k hk=>by simp -implicitDefEqProofs only [m_impl_LiveThunks_L1,m_impl_LiveThunks_B1,dlt hk,cond_true,getI_lt hk,Option.bind_some])
      (fun g xs=>by simp -implicitDefEqProofs only [m_impl_LiveThunks_L1,m_impl_LiveThunks_B1,dge,cond_false,m_impl_LiveThunks_A1]) (by omega)
end
section
open Go.RowKit
noncomputable instance:DecidableEq DNet:=inferInstance
theorem p_toInt64S (xs:List Int) (hs:xs.length≤1048576):m_laws_toInt64S xs=some xs:=by
  unfold m_laws_toInt64S
  rw [mustP_ok (by omega),Option.bind_some]
  exact copyI (L:=m_laws_toInt64S_L1 xs m_laws_toInt64S_A1) (K:=some)
    (fun g k acc hk hg=>by simp -implicitDefEqProofs only [m_laws_toInt64S_L1,m_laws_toInt64S_B1,dlt hk,cond_true,getI_lt hk,Option.bind_some,hg])
    (fun g acc=>by simp -implicitDefEqProofs only [m_laws_toInt64S_L1,m_laws_toInt64S_B1,dge,cond_false,m_laws_toInt64S_A1])
end
end Go.Proofs.YtpbobilkejblgaaGreat
