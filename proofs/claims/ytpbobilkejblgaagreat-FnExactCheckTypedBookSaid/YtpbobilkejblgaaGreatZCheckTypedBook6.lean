/- Lemmas of the proof of CheckTypedBook, part 6. No condition. -/
import Derived.Test.YtpbobilkejblgaaGreatZCheckTypedBook5
namespace Go.Proofs.YtpbobilkejblgaaGreat
set_option linter.unusedVariables false
set_option linter.unusedSimpArgs false
section
open Go.RowKit
set_option maxRecDepth 100000
/-- The cells of a type. -/
structure TC where
  k:Int
  n:ByteArray
  A:Option Addr
  m:Nat
  c:Nat
def TC.cells (t:TC):List Value:=[.int .i64 t.k,.string t.n,.slice t.A t.m t.c]
def TC.val (t:TC):Value:=.agg #[.int .i64 t.k,.string t.n,.slice t.A t.m t.c]
def TC.fn (g:Nat):TC:=⟨3,ByteArray.empty,some ⟨g,0,none⟩,2,2⟩
def funT (a b:DType):DType:=⟨3,ByteArray.empty,[a,b]⟩
def funD:List DType→DType→DType
  |[],r=>r
  |x :: xs,r=>funT x (funD xs r)
/-- A chain of function types, laid at blocks from lo on; what it is laid of reads in w0. -/
def FunCh (e:TypeId) (lo:Nat) (w0 w:World) (q:TC):List DType→TC→Prop
  |[],v=>v=q
  |x :: xs,v=>∃(f:TC) (g:Nat) (v':TC),v=TC.fn g∧lo≤g∧Blk w g e (f.cells ++ v'.cells).toArray∧typeRd w0 w0.heap.size f.cells x∧FunCh e lo w0 w q xs v'
theorem FunCh.keep {e:TypeId} {lo:Nat} {w0 w w':World} {q:TC} (h :∀g,lo≤g→g < w.heap.size→w'.heap[g]? = w.heap[g]?) :∀{xs:List DType} {v:TC},FunCh e lo w0 w q xs v→FunCh e lo w0 w' q xs v
  |[],_,hv=>hv
  |x :: xs,v,⟨f,g,v',e1,h1,B,hR,hr⟩=>⟨f,g,v',e1,h1,(h g h1 B.lt).trans B,hR,FunCh.keep h hr⟩
theorem typeRd_now {w0 w:World} {cs:List Value} {x:DType} (h:typeRd w0 w0.heap.size cs x) (T:Below w0.heap.size w0 w):typeRd w w.heap.size cs x:=
  typeRd_ok.more T.size (typeRd_ok.keep (fun p hp=>T.cell hp) h)
theorem FunCh.read {e:TypeId} {lo:Nat} {w0 w:World} {q:TC} {r:DType} (hq:typeRd w0 w0.heap.size q.cells r) (T:Below w0.heap.size w0 w) :∀{xs:List DType} {v:TC},FunCh e lo w0 w q xs v→typeRd w w.heap.size v.cells (funD xs r)
  |[],v,hv=>by rw [show v=q from hv]; exact typeRd_now hq T
  |x :: xs,v,⟨f,g,v',e1,h1,B,hR,hr⟩=>by
    have ih:=FunCh.read hq T hr
    subst e1
    exact typeRd_in ⟨_,_,_,rfl,⟨rdlitS2 typeRd_ok B (typeRd_now hR T) ih,⟨Nat.le_refl _,(show 2≤maxLen by decide)⟩⟩⟩
theorem raw_l02Fun (a b:TC) (w:World) :
    Calls Tryz.prog 141 #[a.val,b.val] w fun e w'=>∃g,e=.returned (TC.fn g).val∧w.heap.size≤g∧Blk w' g 114 (a.cells ++ b.cells).toArray∧Below w.heap.size w w':=by
  have T:=Below.refl w.heap.size w
  refine enter 9 Tryz.func141 rfl rfl rfl ?_
  intro f hf
  have s0:f 0=.agg #[.int .i64 a.k,.string a.n,.slice a.A a.m a.c]:=hf 0 _ rfl
  have s1:f 1=.agg #[.int .i64 b.k,.string b.n,.slice b.A b.m b.c]:=hf 1 _ rfl
  refine wp_seq ?_
  refine wp_rl rfl ?_
  refine RL.box rfl s0 (fun w3 B4 hb5 szw3=>?_)
  replace B4:Blk w3 w.heap.size 114 #[.int .i64 a.k,.string a.n,.slice a.A a.m a.c]:=B4
  have T:=Tt T hb5
  refine RL.box rfl s1 (fun w7 B8 hb9 szw7=>?_)
  replace B8:Blk w7 w3.heap.size 114 #[.int .i64 b.k,.string b.n,.slice b.A b.m b.c]:=B8
  have B4:=blkT B4 hb9
  have T:=Tt T hb9
  refine RL.alloc (z:=.agg #[.int .i64 0,.string ByteArray.empty,.slice none 0 0]) rfl (by kernel_rfl) (fun w11 B12 hb13 szw11=>?_)
  replace B12:Blk w11 w7.heap.size 114 #[.int .i64 0,.string ByteArray.empty,.slice none 0 0]:=B12
  have GB12:w.heap.size≤w7.heap.size:=T.size
  have B4:=blkT B4 hb13
  have B8:=blkT B8 hb13
  have T:=Tt T hb13
  refine RL.nil ?_
  refine then_n ?_
  refine wp_seq ?_
  refine wp_rl rfl ?_
  refine RL.y rfl (Y.loadN (cs:=[.int .i64 a.k,.string a.n,.slice a.A a.m a.c]) rfl (by kernel_rfl) (cells3 (eqC (blkCell B4 (i:=0) rfl)) (eqC (blkCell B4 (i:=1) rfl)) (eqC (blkCell B4 (i:=2) rfl)))) ?_
  refine RL.y rfl (Y.loadN (cs:=[.int .i64 b.k,.string b.n,.slice b.A b.m b.c]) rfl (by kernel_rfl) (cells3 (eqC (blkCell B8 (i:=0) rfl)) (eqC (blkCell B8 (i:=1) rfl)) (eqC (blkCell B8 (i:=2) rfl)))) ?_
  refine RL.bslice (e:=114) (cells:=#[.int .i64 a.k,.string a.n,.slice a.A a.m a.c,.int .i64 b.k,.string b.n,.slice b.A b.m b.c]) rfl (pm2 rfl rfl) (by kernel_rfl) (fun w15 B16 hb17 szw15=>?_)
  have ZB16:w.heap.size≤w11.heap.size:=T.size
  have B12:=blkT B12 hb17
  have T:=Tt T hb17
  refine RL.y rfl (Y.build2 (cells:=#[.int .i64 3,.string ByteArray.empty,.slice (some ⟨w11.heap.size,0,none⟩) 2 2]) rfl rfl (by kernel_rfl) (by kernel_rfl)) ?_
  refine RL.store (v:=.agg #[.int .i64 3,.string ByteArray.empty,.slice (some ⟨w11.heap.size,0,none⟩) 2 2]) (cs':=#[.int .i64 3,.string ByteArray.empty,.slice (some ⟨w11.heap.size,0,none⟩) 2 2]) rfl rfl rfl B12 (by kernel_rfl) (by rfl) (by rfl) (by rfl) (fun w22 B23 ho24=>?_)
  have szw22:=ho24.size
  have B16:=B16.only_ ho24 (by intro hin; simp at hin; omega)
  have T:=T.trans (ho24.below (by first|(simp; done)|(simp; omega)))
  refine RL.nil ?_
  refine then_n ?_
  refine wp_ret ?_
  exact (retc (cs:=[.int .i64 3,.string ByteArray.empty,.slice (some ⟨w11.heap.size,0,none⟩) 2 2]) rfl rfl rfl (by kernel_rfl) (blkCells B23) ⟨w11.heap.size,rfl,ZB16,B16,T⟩)
def l02M (a b:DType):Option DType:=some (funT a b)
theorem c_l02M (a b r:DType) (hm:l02M a b=some r) (v0 v1:Value) (w:World) (hv0:St typeRd w v0 a) (hv1:St typeRd w v1 b) :
    Calls Tryz.prog 141 #[v0,v1] w fun e w'=>(∃(v0:Value),e=.returned v0∧St typeRd w' v0 r)∧Below w.heap.size w w':=by
  obtain ⟨csa,rfl,hRa⟩:=hv0
  obtain ⟨csb,rfl,hRb⟩:=hv1
  have hSa:=hRa
  have hSb:=hRb
  obtain ⟨A1,n1,c1,rfl,h1,r1⟩:=typeRd_out hSa
  obtain ⟨A2,n2,c2,rfl,h2,r2⟩:=typeRd_out hSb
  obtain rfl:=sj hm
  refine (raw_l02Fun ⟨a.kind,a.name,A1,n1,c1⟩ ⟨b.kind,b.name,A2,n2,c2⟩ w).mono ?_
  rintro e w' ⟨g,rfl,hg,B,T⟩
  exact ⟨⟨_,rfl,⟨(TC.fn g).cells,rfl,typeRd_in ⟨_,_,_,rfl,⟨rdlitS2 typeRd_ok B (typeRd_now hRa T) (typeRd_now hRb T),⟨Nat.le_refl _,(show 2≤maxLen by decide)⟩⟩⟩⟩⟩,T⟩
theorem raw_funType (a b:TC) (w:World) :
    Calls Tryz.prog 158 #[a.val,b.val] w fun e w'=>∃g,e=.returned (TC.fn g).val∧w.heap.size≤g∧Blk w' g 114 (a.cells ++ b.cells).toArray∧Below w.heap.size w w':=by
  have T:=Below.refl w.heap.size w
  refine enter 9 Tryz.func158 rfl rfl rfl ?_
  intro f hf
  have s0:f 0=.agg #[.int .i64 a.k,.string a.n,.slice a.A a.m a.c]:=hf 0 _ rfl
  have s1:f 1=.agg #[.int .i64 b.k,.string b.n,.slice b.A b.m b.c]:=hf 1 _ rfl
  refine wp_seq ?_
  refine wp_rl rfl ?_
  refine RL.box rfl s0 (fun w3 B4 hb5 szw3=>?_)
  replace B4:Blk w3 w.heap.size 114 #[.int .i64 a.k,.string a.n,.slice a.A a.m a.c]:=B4
  have T:=Tt T hb5
  refine RL.box rfl s1 (fun w7 B8 hb9 szw7=>?_)
  replace B8:Blk w7 w3.heap.size 114 #[.int .i64 b.k,.string b.n,.slice b.A b.m b.c]:=B8
  have B4:=blkT B4 hb9
  have T:=Tt T hb9
  refine RL.alloc (z:=.agg #[.int .i64 0,.string ByteArray.empty,.slice none 0 0]) rfl (by kernel_rfl) (fun w11 B12 hb13 szw11=>?_)
  replace B12:Blk w11 w7.heap.size 114 #[.int .i64 0,.string ByteArray.empty,.slice none 0 0]:=B12
  have GB12:w.heap.size≤w7.heap.size:=T.size
  have B4:=blkT B4 hb13
  have B8:=blkT B8 hb13
  have T:=Tt T hb13
  refine RL.nil ?_
  refine then_n ?_
  refine wp_seq ?_
  refine wp_rl rfl ?_
  refine RL.y rfl (Y.loadN (cs:=[.int .i64 a.k,.string a.n,.slice a.A a.m a.c]) rfl (by kernel_rfl) (cells3 (eqC (blkCell B4 (i:=0) rfl)) (eqC (blkCell B4 (i:=1) rfl)) (eqC (blkCell B4 (i:=2) rfl)))) ?_
  refine RL.y rfl (Y.loadN (cs:=[.int .i64 b.k,.string b.n,.slice b.A b.m b.c]) rfl (by kernel_rfl) (cells3 (eqC (blkCell B8 (i:=0) rfl)) (eqC (blkCell B8 (i:=1) rfl)) (eqC (blkCell B8 (i:=2) rfl)))) ?_
  refine RL.bslice (e:=114) (cells:=#[.int .i64 a.k,.string a.n,.slice a.A a.m a.c,.int .i64 b.k,.string b.n,.slice b.A b.m b.c]) rfl (pm2 rfl rfl) (by kernel_rfl) (fun w15 B16 hb17 szw15=>?_)
  have ZB16:w.heap.size≤w11.heap.size:=T.size
  have B12:=blkT B12 hb17
  have T:=Tt T hb17
  refine RL.y rfl (Y.build2 (cells:=#[.int .i64 3,.string ByteArray.empty,.slice (some ⟨w11.heap.size,0,none⟩) 2 2]) rfl rfl (by kernel_rfl) (by kernel_rfl)) ?_
  refine RL.store (v:=.agg #[.int .i64 3,.string ByteArray.empty,.slice (some ⟨w11.heap.size,0,none⟩) 2 2]) (cs':=#[.int .i64 3,.string ByteArray.empty,.slice (some ⟨w11.heap.size,0,none⟩) 2 2]) rfl rfl rfl B12 (by kernel_rfl) (by rfl) (by rfl) (by rfl) (fun w22 B23 ho24=>?_)
  have szw22:=ho24.size
  have B16:=B16.only_ ho24 (by intro hin; simp at hin; omega)
  have T:=T.trans (ho24.below (by first|(simp; done)|(simp; omega)))
  refine RL.nil ?_
  refine then_n ?_
  refine wp_ret ?_
  exact (retc (cs:=[.int .i64 3,.string ByteArray.empty,.slice (some ⟨w11.heap.size,0,none⟩) 2 2]) rfl rfl rfl (by kernel_rfl) (blkCells B23) ⟨w11.heap.size,rfl,ZB16,B16,T⟩)
def funTM (a b:DType):Option DType:=some (funT a b)
theorem c_funTM (a b r:DType) (hm:funTM a b=some r) (v0 v1:Value) (w:World) (hv0:St typeRd w v0 a) (hv1:St typeRd w v1 b) :
    Calls Tryz.prog 158 #[v0,v1] w fun e w'=>(∃(v0:Value),e=.returned v0∧St typeRd w' v0 r)∧Below w.heap.size w w':=by
  obtain ⟨csa,rfl,hRa⟩:=hv0
  obtain ⟨csb,rfl,hRb⟩:=hv1
  have hSa:=hRa
  have hSb:=hRb
  obtain ⟨A1,n1,c1,rfl,h1,r1⟩:=typeRd_out hSa
  obtain ⟨A2,n2,c2,rfl,h2,r2⟩:=typeRd_out hSb
  obtain rfl:=sj hm
  refine (raw_funType ⟨a.kind,a.name,A1,n1,c1⟩ ⟨b.kind,b.name,A2,n2,c2⟩ w).mono ?_
  rintro e w' ⟨g,rfl,hg,B,T⟩
  exact ⟨⟨_,rfl,⟨(TC.fn g).cells,rfl,typeRd_in ⟨_,_,_,rfl,⟨rdlitS2 typeRd_ok B (typeRd_now hRa T) (typeRd_now hRb T),⟨Nat.le_refl _,(show 2≤maxLen by decide)⟩⟩⟩⟩⟩,T⟩
def l07M (ds:List DType) (q:DType):Option DType:=some (funD ds q)
set_option maxHeartbeats 2000000 in
theorem c_l07M (ds:List DType) (q r:DType) (hm:l07M ds q=some r) (v0 v1:Value) (w:World) (hv0:Sl typeRd 3 w v0 ds) (hv1:St typeRd w v1 q) :
    Calls Tryz.prog 144 #[v0,v1] w fun e w'=>(∃(v0:Value),e=.returned v0∧St typeRd w' v0 r)∧Below w.heap.size w w':=by
  obtain ⟨A0,n0,c0,rfl,h0,r0⟩:=hv0
  have e0:=h0.len; subst e0
  have q0:=len_le r0
  obtain ⟨csb,rfl,hRb⟩:=hv1
  have hSb:=hRb
  obtain ⟨A1,n1,c1,rfl,h1,r1⟩:=typeRd_out hSb
  obtain rfl:=sj hm
  obtain ⟨Q,hQ⟩ :∃Q:TC,Q=⟨q.kind,q.name,A1,n1,c1⟩:=⟨_,rfl⟩
  have hRq:typeRd w w.heap.size Q.cells q:=by subst hQ; exact hRb
  have T:=Below.refl w.heap.size w
  refine enter 20 Tryz.func144 rfl rfl rfl ?_
  intro f hf
  have s0:f 0=.slice A0 ds.length c0:=hf 0 _ rfl
  have s1:f 1=.agg #[.int .i64 Q.k,.string Q.n,.slice Q.A Q.m Q.c]:=by subst hQ; exact hf 1 _ rfl
  refine wp_seq<|wp_rl rfl ?_
  refine RL.box rfl s1 (fun w2 B2 hb2 szw2=>?_)
  replace B2:Blk w2 w.heap.size 114 Q.cells.toArray:=B2
  have T:=Tt T hb2
  refine RL.alloc (z:=.agg #[.int .i64 0,.string ByteArray.empty,.slice none 0 0]) rfl (by kernel_rfl) (fun w3 B3 hb3 szw3=>?_)
  replace B3:Blk w3 w2.heap.size 114 #[.int .i64 0,.string ByteArray.empty,.slice none 0 0]:=B3
  have B2:=blkT B2 hb3
  have T:=Tt T hb3
  refine RL.nil<|then_n<|wp_seq<|wp_seq<|wp_rs rfl<|RQ.y rfl (Y.move (v:=.slice A0 ds.length c0) s0)<|RQ.y rfl (Y.len (by kernel_rfl) rfl)<|RQ.y rfl (Y.binI (v:=.int .i64 ((ds.length:Int) - 1)) rfl rfl (binI_sub (by omega)))<|RQ.y rfl (Y.assign (v:=.int .i64 ((ds.length:Int) - 1)) rfl)<|RQ.nil<|then_n<|wp_block ?_
  refine wp_loopX (fun g f w'=>∃(i:Int) (v:TC),f 0=.slice A0 ds.length c0∧f 3=.pointer (some ⟨w.heap.size,0,none⟩)∧f 4=.pointer (some ⟨w2.heap.size,0,none⟩)∧f 5=.int .i64 i∧-1≤i∧i < (ds.length:Int)∧i+1 < g∧Blk w' w.heap.size 114 v.cells.toArray∧Blk w' w2.heap.size 114 #[.int .i64 0,.string ByteArray.empty,.slice none 0 0]∧FunCh 114 w3.heap.size w w' Q (ds.drop (i+1).toNat) v∧Below w.heap.size w w'∧w3.heap.size≤w'.heap.size) 0
   (fun f w'=>∃(v:TC),f 3=.pointer (some ⟨w.heap.size,0,none⟩)∧f 4=.pointer (some ⟨w2.heap.size,0,none⟩)∧Blk w' w.heap.size 114 v.cells.toArray∧Blk w' w2.heap.size 114 #[.int .i64 0,.string ByteArray.empty,.slice none 0 0]∧FunCh 114 w3.heap.size w w' Q ds v∧Below w.heap.size w w') (ds.length+2)
   ⟨(ds.length:Int) - 1,Q,s0,rfl,rfl,rfl,by omega,by omega,by omega,B2,B3,by rw [show ((ds.length:Int) - 1+1).toNat=ds.length by omega,List.drop_length]; exact rfl,T,Nat.le_refl _⟩ ?_ ?_
  ·rintro f wX ⟨v,s3,s4,B2,B3,hF,T⟩
   refine blk_hit (then_n ?_)
   refine wp_seq<|wp_rl rfl<|RL.y rfl (Y.loadN (cs:=v.cells) s3 (by kernel_rfl) (cells3 (eqC (blkCell B2 (i:=0) rfl)) (eqC (blkCell B2 (i:=1) rfl)) (eqC (blkCell B2 (i:=2) rfl)))) ?_
   refine RL.store (v:=v.val) (cs':=v.cells.toArray) rfl s4 rfl B3 (by kernel_rfl) (by rfl) (by rfl) (by rfl) (fun w5 B5 ho5=>?_)
   have hF:=hF.keep (w':=w5) (fun g h1 h2=>ho5.block g (by simp; omega))
   have T:=T.trans (ho5.below (by first|(simp; done)|(simp; omega)))
   refine RL.nil<|then_n<|wp_ret ?_
   exact (retc (cs:=v.cells) rfl rfl s4 (by kernel_rfl) (blkCells B5) ⟨⟨_,rfl,⟨v.cells,rfl,hF.read hRq T⟩⟩,T⟩)
  rintro g f wH ⟨i,v,s0_1,s3_1,s4_1,s5_1,hi0,hi1,hg,B2,B3,hF,T,hsz⟩
  rcases g with _|g
  ·omega
  refine wp_seq<|wp_seq<|wp_rs rfl<|RQ.y rfl (Y.move (v:=.int .i64 i) s5_1)<|RQ.y rfl (Y.binI (v:=.bool (decide (i ≥ 0))) rfl rfl rfl)<|RQ.nil<|then_n ?_
  rcases bcases (decide (i ≥ 0)) with c14|c14
  ·have pc:=of_decide_eq_false c14
   refine cond_f rfl (vb rfl c14)<|wp_exit ?_
   have hi:i = -1:=by omega
   subst hi
   exact (then_x (then_x (hit_x ⟨_,rfl,⟨v,s3_1,s4_1,B2,B3,hF,T⟩⟩)))
  have pc:=of_decide_eq_true c14
  refine cond_t rfl (vb rfl c14)<|wp_skip<|then_n ?_
  obtain ⟨k,rfl⟩:=Int.eq_ofNat_of_zero_le pc
  have hk:k < ds.length:=by omega
  have hx:=List.getElem?_eq_getElem hk
  obtain ⟨b,o,rfl,hbb⟩:=h0.addr (by omega)
  obtain ⟨cs,hR,hc⟩:=h0.el hx
  have hS:=hR
  obtain ⟨A5,n5,c5,rfl,h5,r5⟩:=typeRd_out hS
  refine wp_seq<|wp_block ?_
  refine wp_rg (fun w'=>Below w.heap.size w w') [(0,true),(1,true),(2,true),(3,true),(4,false),(5,false),(6,false)] (by kernel_rfl) (by kernel_rfl) (fun w1 hb1 szw1=>?_)
  have B2:=blkT B2 hb1
  have B3:=blkT B3 hb1
  have hF:=hF.keep (w':=w1) (fun g h1 h2=>hb1.block g h2)
  have T:=Tt T hb1
  have z1:=hb1.size
  refine ⟨T,?_⟩
  refine RG.y rfl rfl (Y.move (v:=.slice (some ⟨b,o,none⟩) ds.length c0) s0_1)<|RG.y rfl rfl (Y.move (v:=.int .i64 (k:Int)) s5_1)<|RG.y rfl rfl (Y.indexAddr (m:=k) (sz:=3) rfl rfl rfl hk (by kernel_rfl))<|RG.y rfl rfl (Y.loadN (cs:=[.int .i64 ds[k].kind,.string ds[k].name,.slice A5 n5 c5]) rfl (by kernel_rfl) (cells3 (fun w' hS=>cellT hS (hc 0 _ rfl)) (fun w' hS=>cellT hS (hc 1 _ rfl)) (fun w' hS=>cellT hS (hc 2 _ rfl))))<|RG.act rfl<|RL.y rfl (Y.loadN (cs:=v.cells) s3_1 (by kernel_rfl) (cells3 (eqC (blkCell B2 (i:=0) rfl)) (eqC (blkCell B2 (i:=1) rfl)) (eqC (blkCell B2 (i:=2) rfl)))) ?_
  refine RL.nil ⟨T,?_⟩
  refine RG.act rfl ?_
  refine RL.call rfl (am2 rfl rfl) (by kernel_rfl) ((raw_l02Fun ⟨ds[k].kind,ds[k].name,A5,n5,c5⟩ v _).mono ?_)
  rintro _ w6 ⟨gn,rfl,hgn,Bn,hb6⟩
  refine ⟨_,rfl,?_⟩
  have B2:=blkT B2 hb6
  have B3:=blkT B3 hb6
  have hF:=hF.keep (w':=w6) (fun g h1 h2=>hb6.block g h2)
  have T:=Tt T hb6
  have z6:=hb6.size
  refine RL.nil ⟨T,?_⟩
  refine RG.act rfl ?_
  refine RL.store (v:=(TC.fn gn).val) (cs':=(TC.fn gn).cells.toArray) rfl s3_1 rfl B2 (by kernel_rfl) (by rfl) (by rfl) (by rfl) (fun w7 B7 ho7=>?_)
  have z7:=ho7.size
  have B3:=B3.only_ ho7 (by intro hin; simp at hin; omega)
  have Bn:=Bn.only_ ho7 (by intro hin; simp at hin; omega)
  have hF:=hF.keep (w':=w7) (fun g h1 h2=>ho7.block g (by simp; omega))
  have T:=T.trans (ho7.below (by first|(simp; done)|(simp; omega)))
  refine RL.nil ⟨T,?_⟩
  refine RG.nil ?_
  refine blk_n (then_n ?_)
  refine wp_rs rfl<|RQ.y rfl (Y.move (v:=.int .i64 (k:Int)) s5_1)<|RQ.y rfl (Y.binI (v:=.int .i64 ((k:Int) - 1)) rfl rfl (binI_sub (by omega)))<|RQ.y rfl (Y.assign (v:=.int .i64 ((k:Int) - 1)) rfl)<|RQ.nil ?_
  have hd:ds.drop ((k:Int) - 1+1).toNat=ds[k] :: ds.drop ((k:Int)+1).toNat:=by
   rw [show ((k:Int) - 1+1).toNat=k by omega,show ((k:Int)+1).toNat=k+1 by omega]
   exact List.drop_eq_getElem_cons hk
  exact (then_n ⟨g,_,Nat.lt_succ_self _,rfl,⟨(k:Int) - 1,TC.fn gn,s0_1,s3_1,s4_1,rfl,by omega,by omega,by omega,B7,B3,by rw [hd]; exact ⟨_,gn,v,rfl,by omega,Bn,hR,hF⟩,T,by omega⟩⟩)
end
section
open Go.RowKit
set_option maxRecDepth 100000
noncomputable def m_spec_l20Def (d0:DSignature) (d1:Int) (d2:DType):Option Bool:=
  ((ck ((d0.defs.length:Int) - 1)).bind fun s8=>(bif (inR d1 0 s8) then ((getI d0.defs d1).bind fun x12=>((m_spec_SameType (SizeOf.sizeOf x12) x12 d2).bind fun y22=>some y22)) else some false))
set_option maxHeartbeats 2000000 in
theorem c_m_spec_l20Def (d0:DSignature) (d1:Int) (d2:DType) (r:Bool) (hm:m_spec_l20Def d0 d1 d2=some r) (v0:Value) (v2:Value) (w:World) (hv0:Pt signatureRd w v0 d0) (hv2:St typeRd w v2 d2) :
    Calls Tryz.prog 143 #[v0,.int .i64 d1,v2] w fun e w'=>e=.returned (.bool r)∧Below w.heap.size w w':=by
  obtain ⟨ba0,oa0,csa0,rfl,hba0,hRa0,hca0⟩:=hv0
  have hSa0:=hRa0
  obtain ⟨A1,n1,c1,A2,n2,c2,rfl,⟨h1,r1⟩,⟨h2,r2⟩⟩:=hRa0
  have e1:=h1.len; subst e1
  have q1:=len_le r1
  have e2:=h2.len; subst e2
  have q2:=len_le r2
  obtain ⟨csa2,rfl,hRR2⟩:=hv2
  obtain ⟨A3,n3,c3,rfl,⟨h3,r3⟩⟩:=(typeRd_out hRR2)
  have e3:=h3.len; subst e3
  have q3:=len_le r3
  have T:=Below.refl w.heap.size w
  unfold m_spec_l20Def at hm
  refine enter 26 Tryz.func143 rfl rfl rfl ?_
  intro f hf
  have s0:f 0=.pointer (some ⟨ba0,oa0,none⟩):=hf 0 _ rfl
  have s1:f 1=.int .i64 d1:=hf 1 _ rfl
  have s2:f 2=.agg #[.int .i64 d2.kind,.string d2.name,.slice A3 d2.kids.length c3]:=hf 2 _ rfl
  refine wp_seq<|wp_rl rfl ?_
  refine RL.box rfl s2 (fun w4 B5 hb6 szw4=>?_)
  replace B5:Blk w4 w.heap.size 114 #[.int .i64 d2.kind,.string d2.name,.slice A3 d2.kids.length c3]:=B5
  have GB5:w.heap.size≤w.heap.size:=T.size
  have T:=Tt T hb6
  refine RL.y rfl (Y.assign (v:=.bool false) rfl)<|RL.nil<|then_n<|wp_seq<|wp_rbd (by kernel_rfl) (by kernel_rfl)<|RQ.y rfl (Y.move (v:=.int .i64 d1) s1)<|RQ.y rfl (Y.move (v:=.pointer (some ⟨ba0,oa0,none⟩)) s0)<|RQ.y rfl (Y.nilCheck rfl)<|RQ.y rfl (Y.fieldAddr (off:=1) rfl (by kernel_rfl))<|RQ.y rfl (Y.load (v:=.slice A2 d0.defs.length c2) rfl (by kernel_rfl) (beC (cellT T (hca0 1 _ rfl))))<|RQ.y rfl (Y.len (by kernel_rfl) rfl) ?_
  obtain ⟨s8,ks8,hm⟩:=bnd hm
  replace ks8:=ck_some ks8
  refine RQ.y rfl (Y.binI (v:=.int .i64 s8) rfl rfl (by rw [binI_sub ks8.2,ks8.1]))<|RQ.call rfl (am3 rfl rfl rfl) (by kernel_rfl) (v:=.bool (inR d1 0 s8)) (bel (K:=fun _=>True) fun w' hb'=>(callB (spec_l00In d1 0 s8 w')))<|RQ.y rfl (Y.move (v:=.bool (inR d1 0 s8)) rfl) ?_
  rcases bcases (inR d1 0 s8) with c9|c9
  ·replace hm:=cF c9 hm
   iterate 9 refine RQ.skip (wantN (dj:=15) rfl (vb rfl c9) rfl) ?_
   refine RQ.y rfl (Y.pick (b:=false) (v:=.bool false) (vb rfl c9) rfl)<|RQ.y rfl (Y.assign (v:=.bool false) rfl)<|RQ.nil ?_
   intro w10 hb11
   have szw10:=hb11.size
   have T:=Tt T hb11
   refine then_n<|wp_ret ?_
   obtain rfl:=sj hm
   exact (ret1 rfl rfl rfl ⟨rfl,T⟩)
  replace hm:=cT c9 hm
  refine RQ.y (wantT (dj:=15) rfl (vb rfl c9)) (Y.move (v:=.pointer (some ⟨ba0,oa0,none⟩)) s0)<|RQ.y (wantT (dj:=15) rfl (vb rfl c9)) (Y.nilCheck rfl)<|RQ.y (wantT (dj:=15) rfl (vb rfl c9)) (Y.fieldAddr (off:=1) rfl (by kernel_rfl))<|RQ.y (wantT (dj:=15) rfl (vb rfl c9)) (Y.load (v:=.slice A2 d0.defs.length c2) rfl (by kernel_rfl) (beC (cellT T (hca0 1 _ rfl))))<|RQ.y (wantT (dj:=15) rfl (vb rfl c9)) (Y.move (v:=.int .i64 d1) s1) ?_
  obtain ⟨x12,hx15,hm⟩:=bnd hm
  obtain ⟨k13,hk16,hl17,hx15⟩:=getI_some hx15
  obtain ⟨b19,o20,rfl,hbb19⟩:=h2.addr (by omega)
  obtain ⟨cs14,hRcs14,hc18⟩:=h2.el hx15
  have hScs14:=hRcs14
  obtain ⟨A21,n21,c21,rfl,⟨h21,r21⟩⟩:=(typeRd_out hRcs14)
  have e21:=h21.len; subst e21
  have q21:=len_le r21
  refine RQ.y (wantT (dj:=15) rfl (vb rfl c9)) (Y.indexAddr (m:=k13) (sz:=3) rfl rfl hk16 hl17 (by kernel_rfl))<|RQ.y (wantT (dj:=15) rfl (vb rfl c9)) (Y.loadN (cs:=[.int .i64 x12.kind,.string x12.name,.slice A21 x12.kids.length c21]) rfl (by kernel_rfl) (cells3 (beC (cellT T (hc18 0 _ rfl))) (beC (cellT T (hc18 1 _ rfl))) (beC (cellT T (hc18 2 _ rfl)))))<|RQ.y (wantT (dj:=15) rfl (vb rfl c9)) (Y.loadN (cs:=[.int .i64 d2.kind,.string d2.name,.slice A3 d2.kids.length c3]) rfl (by kernel_rfl) (cells3 (beC (blkCell B5 (i:=0) rfl)) (beC (blkCell B5 (i:=1) rfl)) (beC (blkCell B5 (i:=2) rfl)))) ?_
  obtain ⟨y22,e23,hm⟩:=bnd hm
  refine RQ.call (wantT (dj:=15) rfl (vb rfl c9)) (am2 rfl rfl) (by kernel_rfl) (v:=.bool y22) (bel (K:=fun _=>True) fun w' hb'=>(c_m_spec_SameType (SizeOf.sizeOf x12) x12 d2 _ e23 _ _ w' (stArg (R:=typeRd) (typeRd_in ⟨_,_,_,rfl,⟨SlAt.now typeRd_ok h21 (Nat.le_refl _) (Tt T hb'),r21⟩⟩)) (stArg (R:=typeRd) (typeRd_in ⟨_,_,_,rfl,⟨SlAt.now typeRd_ok h3 (Nat.le_refl _) (Tt T hb'),r3⟩⟩))))<|RQ.y rfl (Y.pick (b:=true) (v:=.bool y22) (vb rfl c9) rfl)<|RQ.y rfl (Y.assign (v:=.bool y22) rfl)<|RQ.nil ?_
  intro w24 hb25
  have szw24:=hb25.size
  have T:=Tt T hb25
  refine then_n<|wp_ret ?_
  obtain rfl:=sj hm
  exact (ret1 rfl rfl rfl ⟨rfl,T⟩)
noncomputable def m_spec_l20Fits_A1:Option Bool:=
  some true
noncomputable def m_spec_l20Fits_B1 (d0:DSignature) (d1:DAgent) (d2:List DType) (y93:Int) (rec1:Int→Option Bool) (K1:Option Bool) (i120:Int):Option Bool:=
  (bif (decide (i120 < (d1.data.length:Int))) then ((getI d1.data i120).bind fun x125=>((getI d0.datas y93).bind fun x134=>((getI x134.cons i120).bind fun x142=>((getI d2 1).bind fun x152=>((l07M x142.fields x152).bind fun y160=>((m_spec_l20Def d0 x125 y160).bind fun y170=>(bif y170 then (rec1 (i120+1)) else some false))))))) else (K1))
noncomputable def m_spec_l20Fits_L1 (d0:DSignature) (d1:DAgent) (d2:List DType) (y93:Int) (K1:Option Bool):Nat→Int→Option Bool
  |0,_=>none
  |g+1,i120=>m_spec_l20Fits_B1 d0 d1 d2 y93 (m_spec_l20Fits_L1 d0 d1 d2 y93 K1 g) K1 i120
noncomputable def m_spec_l20Fits_A2:Option Bool:=
  some true
noncomputable def m_spec_l20Fits_B2 (d2:List DType) (rec2:Int→Option Bool) (K2:Option Bool) (i245:Int):Option Bool:=
  (bif (decide (i245 < (d2.length:Int))) then ((getI d2 i245).bind fun x248=>(bif (x248.kind != 1) then some false else (rec2 (i245+1)))) else (K2))
noncomputable def m_spec_l20Fits_L2 (d2:List DType) (K2:Option Bool):Nat→Int→Option Bool
  |0,_=>none
  |g+1,i245=>m_spec_l20Fits_B2 d2 (m_spec_l20Fits_L2 d2 K2 g) K2 i245
noncomputable def m_spec_l20Fits_A3:Option Bool:=
  some true
noncomputable def m_spec_l20Fits_B3 (d2:List DType) (rec3:Int→Option Bool) (K3:Option Bool) (i261:Int):Option Bool:=
  (bif (decide (i261 < (d2.length:Int))) then ((getI d2 i261).bind fun x264=>(bif (x264.kind != 1) then some false else (rec3 (i261+1)))) else (K3))
noncomputable def m_spec_l20Fits_L3 (d2:List DType) (K3:Option Bool):Nat→Int→Option Bool
  |0,_=>none
  |g+1,i261=>m_spec_l20Fits_B3 d2 (m_spec_l20Fits_L3 d2 K3 g) K3 i261
noncomputable def m_spec_l20Fits_A4:Option Bool:=
  some true
noncomputable def m_spec_l20Fits_B4 (d2:List DType) (rec4:Int→Option Bool) (K4:Option Bool) (i277:Int):Option Bool:=
  (bif (decide (i277 < (d2.length:Int))) then ((getI d2 i277).bind fun x280=>(bif (x280.kind != 1) then some false else (rec4 (i277+1)))) else (K4))
noncomputable def m_spec_l20Fits_L4 (d2:List DType) (K4:Option Bool):Nat→Int→Option Bool
  |0,_=>none
  |g+1,i277=>m_spec_l20Fits_B4 d2 (m_spec_l20Fits_L4 d2 K4 g) K4 i277
noncomputable def m_spec_l20Fits (d0:DSignature) (d1:DAgent) (d2:List DType):Option Bool:=
  (bif (d1.kind==2) then ((getI d2 0).bind fun x379=>((getI d2 1).bind fun x389=>((getI d2 2).bind fun x397=>((l02M x389 x397).bind fun y405=>((m_spec_SameType (SizeOf.sizeOf x379) x379 y405).bind fun y415=>some y415))))) else (bif (d1.kind==3) then ((getI d2 0).bind fun x337=>((getI d2 1).bind fun x347=>((getI d2 2).bind fun x355=>((l02M x347 x355).bind fun y363=>((m_spec_SameType (SizeOf.sizeOf x337) x337 y363).bind fun y373=>some y373))))) else (bif (d1.kind==4) then ((getI d2 0).bind fun x292=>((getI d2 1).bind fun x302=>((m_spec_SameType (SizeOf.sizeOf x292) x292 x302).bind fun y310=>(bif y310 then ((getI d2 0).bind fun x315=>((getI d2 2).bind fun x323=>((m_spec_SameType (SizeOf.sizeOf x315) x315 x323).bind fun y331=>some y331))) else some false)))) else (bif (d1.kind==6) then (m_spec_l20Fits_L4 d2 m_spec_l20Fits_A4 (d2.length+1) 0) else (bif (d1.kind==7) then (m_spec_l20Fits_L3 d2 m_spec_l20Fits_A3 (d2.length+1) 0) else (bif (d1.kind==8) then (m_spec_l20Fits_L2 d2 m_spec_l20Fits_A2 (d2.length+1) 0) else (bif (d1.kind==9) then ((getI d2 0).bind fun x178=>((m_spec_l02Named d0.datas x178.name).bind fun y188=>((getI d2 0).bind fun x192=>(bif (x192.kind==2) then ((getI d0.datas y188).bind fun x203=>(bif (decide (d1.value < (x203.cons.length:Int))) then ((getI d0.datas y188).bind fun x216=>((getI x216.cons d1.value).bind fun x224=>((mustP (1≤d2.length)).bind fun _=>((m_spec_l03SameTypes x224.fields (d2.drop 1)).bind fun y240=>some y240)))) else some false)) else some false)))) else (bif (d1.kind==10) then ((getI d2 0).bind fun x83=>((m_spec_l02Named d0.datas x83.name).bind fun y93=>((getI d2 0).bind fun x97=>(bif (x97.kind != 2) then some false else ((getI d0.datas y93).bind fun x106=>(bif ((x106.cons.length:Int) != (d1.data.length:Int)) then some false else (m_spec_l20Fits_L1 d0 d1 d2 y93 m_spec_l20Fits_A1 (d1.data.length+1) 0))))))) else (bif (d1.kind==11) then ((getI d2 0).bind fun x29=>(bif (x29.kind==1) then ((getI d1.data 0).bind fun x42=>((getI d2 1).bind fun x51=>((m_spec_l20Def d0 x42 x51).bind fun y59=>(bif y59 then ((getI d1.data 1).bind fun x64=>((getI d2 1).bind fun x71=>((m_spec_l20Def d0 x64 x71).bind fun y79=>some y79))) else some false)))) else some false)) else (bif (d1.kind==12) then ((getI d2 0).bind fun x15=>((m_spec_l20Def d0 d1.value x15).bind fun y25=>some y25)) else some true))))))))))
set_option maxHeartbeats 2000000 in
theorem c_m_spec_l20Fits (d0:DSignature) (d1:DAgent) (d2:List DType) (r:Bool) (hm:m_spec_l20Fits d0 d1 d2=some r) (v0:Value) (v1:Value) (v2:Value) (w:World) (hv0:Pt signatureRd w v0 d0) (hv1:Pt agentRd w v1 d1) (hv2:Sl typeRd 3 w v2 d2) :
    Calls Tryz.prog 87 #[v0,v1,v2] w fun e w'=>e=.returned (.bool r)∧Below w.heap.size w w':=by
  obtain ⟨ba0,oa0,csa0,rfl,hba0,hRa0,hca0⟩:=hv0
  have hSa0:=hRa0
  obtain ⟨A1,n1,c1,A2,n2,c2,rfl,⟨h1,r1⟩,⟨h2,r2⟩⟩:=hRa0
  have e1:=h1.len; subst e1
  have q1:=len_le r1
  have e2:=h2.len; subst e2
  have q2:=len_le r2
  obtain ⟨ba1,oa1,csa1,rfl,hba1,hRa1,hca1⟩:=hv1
  have hSa1:=hRa1
  obtain ⟨A3,n3,c3,A4,n4,c4,rfl,⟨h3,r3⟩,⟨h4,r4⟩⟩:=hRa1
  have e3:=h3.len; subst e3
  have q3:=len_le r3
  have e4:=h4.len; subst e4
  have q4:=len_le r4
  obtain ⟨Aa2,na2,ca2,rfl,ha2,ra2⟩:=hv2
  have ea2:=ha2.len; subst ea2
  have qa2:=len_le ra2
  have T:=Below.refl w.heap.size w
  unfold m_spec_l20Fits at hm
  refine enter 227 Tryz.func87 rfl rfl rfl ?_
  intro f hf
  have s0:f 0=.pointer (some ⟨ba0,oa0,none⟩):=hf 0 _ rfl
  have s1:f 1=.pointer (some ⟨ba1,oa1,none⟩):=hf 1 _ rfl
  have s2:f 2=.slice Aa2 d2.length ca2:=hf 2 _ rfl
  refine wp_seq<|wp_rs rfl<|RQ.y rfl (Y.assign (v:=.bool false) rfl)<|RQ.nil<|then_n<|wp_seq<|wp_seq<|wp_rs rfl<|RQ.y rfl (Y.move (v:=.pointer (some ⟨ba1,oa1,none⟩)) s1)<|RQ.y rfl (Y.nilCheck rfl)<|RQ.y rfl (Y.fieldAddr (off:=0) rfl (by kernel_rfl))<|RQ.y rfl (Y.load (v:=.int .i64 d1.kind) rfl (by kernel_rfl) (eqC (cellT T (hca1 0 _ rfl))))<|RQ.nil<|then_n<|wp_block<|wp_seq<|wp_seq<|wp_rs rfl<|RQ.y rfl (Y.binI (v:=.bool (d1.kind==2)) rfl rfl rfl)<|RQ.y rfl (Y.assign (v:=.bool (d1.kind==2)) rfl)<|RQ.nil<|then_n ?_
  rcases bcases (d1.kind==2) with c5|c5
  ·replace hm:=cF c5 hm
   refine cond_f rfl (vb rfl c5)<|wp_rs rfl<|RQ.y rfl (Y.binI (v:=.bool (d1.kind==3)) rfl rfl rfl)<|RQ.y rfl (Y.assign (v:=.bool (d1.kind==3)) rfl)<|RQ.nil<|then_n ?_
   rcases bcases (d1.kind==3) with c6|c6
   ·replace hm:=cF c6 hm
    refine cond_f rfl (vb rfl c6)<|wp_seq<|wp_rs rfl<|RQ.y rfl (Y.binI (v:=.bool (d1.kind==4)) rfl rfl rfl)<|RQ.y rfl (Y.assign (v:=.bool (d1.kind==4)) rfl)<|RQ.nil<|then_n ?_
    rcases bcases (d1.kind==4) with c7|c7
    ·replace hm:=cF c7 hm
     refine cond_f rfl (vb rfl c7)<|wp_seq<|wp_seq<|wp_rs rfl<|RQ.y rfl (Y.binI (v:=.bool (d1.kind==6)) rfl rfl rfl)<|RQ.y rfl (Y.assign (v:=.bool (d1.kind==6)) rfl)<|RQ.nil<|then_n ?_
     rcases bcases (d1.kind==6) with c8|c8
     ·replace hm:=cF c8 hm
      refine cond_f rfl (vb rfl c8)<|wp_seq<|wp_rs rfl<|RQ.y rfl (Y.binI (v:=.bool (d1.kind==7)) rfl rfl rfl)<|RQ.y rfl (Y.assign (v:=.bool (d1.kind==7)) rfl)<|RQ.nil<|then_n ?_
      rcases bcases (d1.kind==7) with c9|c9
      ·replace hm:=cF c9 hm
       refine cond_f rfl (vb rfl c9)<|wp_rs rfl<|RQ.y rfl (Y.binI (v:=.bool (d1.kind==8)) rfl rfl rfl)<|RQ.y rfl (Y.assign (v:=.bool (d1.kind==8)) rfl)<|RQ.nil<|then_n ?_
       rcases bcases (d1.kind==8) with c10|c10
       ·replace hm:=cF c10 hm
        refine cond_f rfl (vb rfl c10)<|wp_seq<|wp_rs rfl<|RQ.y rfl (Y.binI (v:=.bool (d1.kind==9)) rfl rfl rfl)<|RQ.y rfl (Y.assign (v:=.bool (d1.kind==9)) rfl)<|RQ.nil<|then_n ?_
        rcases bcases (d1.kind==9) with c11|c11
        ·replace hm:=cF c11 hm
         refine cond_f rfl (vb rfl c11)<|wp_seq<|wp_rs rfl<|RQ.y rfl (Y.binI (v:=.bool (d1.kind==10)) rfl rfl rfl)<|RQ.y rfl (Y.assign (v:=.bool (d1.kind==10)) rfl)<|RQ.nil<|then_n ?_
         rcases bcases (d1.kind==10) with c12|c12
         ·replace hm:=cF c12 hm
          refine cond_f rfl (vb rfl c12)<|wp_seq<|wp_rs rfl<|RQ.y rfl (Y.binI (v:=.bool (d1.kind==11)) rfl rfl rfl)<|RQ.y rfl (Y.assign (v:=.bool (d1.kind==11)) rfl)<|RQ.nil<|then_n ?_
          rcases bcases (d1.kind==11) with c13|c13
          ·replace hm:=cF c13 hm
           refine cond_f rfl (vb rfl c13)<|wp_seq<|wp_rs rfl<|RQ.y rfl (Y.binI (v:=.bool (d1.kind==12)) rfl rfl rfl)<|RQ.y rfl (Y.assign (v:=.bool (d1.kind==12)) rfl)<|RQ.nil<|then_n ?_
           rcases bcases (d1.kind==12) with c14|c14
           ·replace hm:=cF c14 hm
            refine cond_f rfl (vb rfl c14)<|wp_skip ?_
            refine blk_n (then_n ?_)
            refine wp_seq<|wp_rs rfl<|RQ.y rfl (Y.assign (v:=.bool true) rfl)<|RQ.nil<|then_n<|wp_ret ?_
            obtain rfl:=sj hm
            exact (ret1 rfl rfl rfl ⟨rfl,T⟩)
           replace hm:=cT c14 hm
           refine cond_t rfl (vb rfl c14)<|wp_seq<|wp_rbd (by kernel_rfl) (by kernel_rfl)<|RQ.y rfl (Y.move (v:=.pointer (some ⟨ba0,oa0,none⟩)) s0)<|RQ.y rfl (Y.move (v:=.pointer (some ⟨ba1,oa1,none⟩)) s1)<|RQ.y rfl (Y.nilCheck rfl)<|RQ.y rfl (Y.fieldAddr (off:=2) rfl (by kernel_rfl))<|RQ.y rfl (Y.load (v:=.int .i64 d1.value) rfl (by kernel_rfl) (beC (cellT T (hca1 2 _ rfl))))<|RQ.y rfl (Y.move (v:=.slice Aa2 d2.length ca2) s2) ?_
           obtain ⟨x15,hx18,hm⟩:=bnd hm
           obtain ⟨k16,hk19,hl20,hx18⟩:=getI_some hx18
           obtain ⟨b22,o23,rfl,hbb22⟩:=ha2.addr (by omega)
           obtain ⟨cs17,hRcs17,hc21⟩:=ha2.el hx18
           have hScs17:=hRcs17
           obtain ⟨A24,n24,c24,rfl,⟨h24,r24⟩⟩:=(typeRd_out hRcs17)
           have e24:=h24.len; subst e24
           have q24:=len_le r24
           refine RQ.y rfl (Y.indexAddr (m:=k16) (sz:=3) rfl rfl hk19 hl20 (by kernel_rfl))<|RQ.y rfl (Y.loadN (cs:=[.int .i64 x15.kind,.string x15.name,.slice A24 x15.kids.length c24]) rfl (by kernel_rfl) (cells3 (beC (cellT T (hc21 0 _ rfl))) (beC (cellT T (hc21 1 _ rfl))) (beC (cellT T (hc21 2 _ rfl))))) ?_
           obtain ⟨y25,e26,hm⟩:=bnd hm
           refine RQ.call rfl (am3 rfl rfl rfl) (by kernel_rfl) (v:=.bool y25) (bel (K:=fun _=>True) fun w' hb'=>(c_m_spec_l20Def d0 d1.value x15 _ e26 _ _ w' (ptArg signatureRd_ok hba0 hSa0 hca0 (Tt T hb')) (stArg (R:=typeRd) (typeRd_in ⟨_,_,_,rfl,⟨SlAt.now typeRd_ok h24 (Nat.le_refl _) (Tt T hb'),r24⟩⟩))))<|RQ.y rfl (Y.assign (v:=.bool y25) rfl)<|RQ.nil ?_
           intro w27 hb28
           have szw27:=hb28.size
           have T:=Tt T hb28
           refine then_n<|wp_ret ?_
           obtain rfl:=sj hm
           exact (blk_r (then_r (ret1 rfl rfl rfl ⟨rfl,T⟩)))
          replace hm:=cT c13 hm
          refine cond_t rfl (vb rfl c13)<|wp_seq<|wp_rbd (by kernel_rfl) (by kernel_rfl)<|RQ.y rfl (Y.move (v:=.slice Aa2 d2.length ca2) s2) ?_
          obtain ⟨x29,hx32,hm⟩:=bnd hm
          obtain ⟨k30,hk33,hl34,hx32⟩:=getI_some hx32
          obtain ⟨b36,o37,rfl,hbb36⟩:=ha2.addr (by omega)
          obtain ⟨cs31,hRcs31,hc35⟩:=ha2.el hx32
          have hScs31:=hRcs31
          obtain ⟨A38,n38,c38,rfl,⟨h38,r38⟩⟩:=(typeRd_out hRcs31)
          have e38:=h38.len; subst e38
          have q38:=len_le r38
          refine RQ.y rfl (Y.indexAddr (m:=k30) (sz:=3) rfl rfl hk33 hl34 (by kernel_rfl))<|RQ.y rfl (Y.fieldAddr (off:=0) rfl (by kernel_rfl))<|RQ.y rfl (Y.load (v:=.int .i64 x29.kind) rfl (by kernel_rfl) (beC (cellT T (hc35 0 _ rfl))))<|RQ.y rfl (Y.binI (v:=.bool (x29.kind==1)) rfl rfl rfl)<|RQ.y rfl (Y.move (v:=.bool (x29.kind==1)) rfl) ?_
          rcases bcases (x29.kind==1) with c39|c39
          ·replace hm:=cF c39 hm
           iterate 11 refine RQ.skip (wantN (dj:=190) rfl (vb rfl c39) rfl) ?_
           refine RQ.y rfl (Y.pick (b:=false) (v:=.bool false) (vb rfl c39) rfl)<|RQ.y rfl (Y.move (v:=.bool false) rfl) ?_
           iterate 11 refine RQ.skip (wantN (dj:=203) rfl rfl rfl) ?_
           refine RQ.y rfl (Y.pick (b:=false) (v:=.bool false) rfl rfl)<|RQ.y rfl (Y.assign (v:=.bool false) rfl)<|RQ.nil ?_
           intro w40 hb41
           have szw40:=hb41.size
           have T:=Tt T hb41
           refine then_n<|wp_ret ?_
           obtain rfl:=sj hm
           exact (blk_r (then_r (ret1 rfl rfl rfl ⟨rfl,T⟩)))
          replace hm:=cT c39 hm
          refine RQ.y (wantT (dj:=190) rfl (vb rfl c39)) (Y.move (v:=.pointer (some ⟨ba0,oa0,none⟩)) s0)<|RQ.y (wantT (dj:=190) rfl (vb rfl c39)) (Y.move (v:=.pointer (some ⟨ba1,oa1,none⟩)) s1)<|RQ.y (wantT (dj:=190) rfl (vb rfl c39)) (Y.nilCheck rfl)<|RQ.y (wantT (dj:=190) rfl (vb rfl c39)) (Y.fieldAddr (off:=3) rfl (by kernel_rfl))<|RQ.y (wantT (dj:=190) rfl (vb rfl c39)) (Y.load (v:=.slice A3 d1.data.length c3) rfl (by kernel_rfl) (beC (cellT T (hca1 3 _ rfl)))) ?_
          obtain ⟨x42,hx45,hm⟩:=bnd hm
          obtain ⟨k43,hk46,hl47,hx45⟩:=getI_some hx45
          obtain ⟨b49,o50,rfl,hbb49⟩:=h3.addr (by omega)
          obtain ⟨cs44,hRcs44,hc48⟩:=h3.el hx45
          have hScs44:=hRcs44
          obtain rfl:=hRcs44
          refine RQ.y (wantT (dj:=190) rfl (vb rfl c39)) (Y.indexAddr (m:=k43) (sz:=1) rfl rfl hk46 hl47 (by kernel_rfl))<|RQ.y (wantT (dj:=190) rfl (vb rfl c39)) (Y.load (v:=.int .i64 x42) rfl (by kernel_rfl) (beC (cellT T (hc48 0 _ rfl))))<|RQ.y (wantT (dj:=190) rfl (vb rfl c39)) (Y.move (v:=.slice (some ⟨b36,o37,none⟩) d2.length ca2) s2) ?_
          obtain ⟨x51,hx54,hm⟩:=bnd hm
          obtain ⟨k52,hk55,hl56,hx54⟩:=getI_some hx54
          obtain ⟨cs53,hRcs53,hc57⟩:=ha2.el hx54
          have hScs53:=hRcs53
          obtain ⟨A58,n58,c58,rfl,⟨h58,r58⟩⟩:=(typeRd_out hRcs53)
          have e58:=h58.len; subst e58
          have q58:=len_le r58
          refine RQ.y (wantT (dj:=190) rfl (vb rfl c39)) (Y.indexAddr (m:=k52) (sz:=3) rfl rfl hk55 hl56 (by kernel_rfl))<|RQ.y (wantT (dj:=190) rfl (vb rfl c39)) (Y.loadN (cs:=[.int .i64 x51.kind,.string x51.name,.slice A58 x51.kids.length c58]) rfl (by kernel_rfl) (cells3 (beC (cellT T (hc57 0 _ rfl))) (beC (cellT T (hc57 1 _ rfl))) (beC (cellT T (hc57 2 _ rfl))))) ?_
          obtain ⟨y59,e60,hm⟩:=bnd hm
          refine RQ.call (wantT (dj:=190) rfl (vb rfl c39)) (am3 rfl rfl rfl) (by kernel_rfl) (v:=.bool y59) (bel (K:=fun _=>True) fun w' hb'=>(c_m_spec_l20Def d0 x42 x51 _ e60 _ _ w' (ptArg signatureRd_ok hba0 hSa0 hca0 (Tt T hb')) (stArg (R:=typeRd) (typeRd_in ⟨_,_,_,rfl,⟨SlAt.now typeRd_ok h58 (Nat.le_refl _) (Tt T hb'),r58⟩⟩))))<|RQ.y rfl (Y.pick (b:=true) (v:=.bool y59) (vb rfl c39) rfl)<|RQ.y rfl (Y.move (v:=.bool y59) rfl) ?_
          rcases bcases y59 with c61|c61
          ·replace hm:=cF c61 hm
           iterate 11 refine RQ.skip (wantN (dj:=203) rfl (vb rfl c61) rfl) ?_
           refine RQ.y rfl (Y.pick (b:=false) (v:=.bool false) (vb rfl c61) rfl)<|RQ.y rfl (Y.assign (v:=.bool false) rfl)<|RQ.nil ?_
           intro w62 hb63
           have szw62:=hb63.size
           have T:=Tt T hb63
           refine then_n<|wp_ret ?_
           obtain rfl:=sj hm
           exact (blk_r (then_r (ret1 rfl rfl rfl ⟨rfl,T⟩)))
          replace hm:=cT c61 hm
          refine RQ.y (wantT (dj:=203) rfl (vb rfl c61)) (Y.move (v:=.pointer (some ⟨ba0,oa0,none⟩)) s0)<|RQ.y (wantT (dj:=203) rfl (vb rfl c61)) (Y.move (v:=.pointer (some ⟨ba1,oa1,none⟩)) s1)<|RQ.y (wantT (dj:=203) rfl (vb rfl c61)) (Y.nilCheck rfl)<|RQ.y (wantT (dj:=203) rfl (vb rfl c61)) (Y.fieldAddr (off:=3) rfl (by kernel_rfl))<|RQ.y (wantT (dj:=203) rfl (vb rfl c61)) (Y.load (v:=.slice (some ⟨b49,o50,none⟩) d1.data.length c3) rfl (by kernel_rfl) (beC (cellT T (hca1 3 _ rfl)))) ?_
          obtain ⟨x64,hx67,hm⟩:=bnd hm
          obtain ⟨k65,hk68,hl69,hx67⟩:=getI_some hx67
          obtain ⟨cs66,hRcs66,hc70⟩:=h3.el hx67
          have hScs66:=hRcs66
          obtain rfl:=hRcs66
          refine RQ.y (wantT (dj:=203) rfl (vb rfl c61)) (Y.indexAddr (m:=k65) (sz:=1) rfl rfl hk68 hl69 (by kernel_rfl))<|RQ.y (wantT (dj:=203) rfl (vb rfl c61)) (Y.load (v:=.int .i64 x64) rfl (by kernel_rfl) (beC (cellT T (hc70 0 _ rfl))))<|RQ.y (wantT (dj:=203) rfl (vb rfl c61)) (Y.move (v:=.slice (some ⟨b36,o37,none⟩) d2.length ca2) s2) ?_
          obtain ⟨x71,hx74,hm⟩:=bnd hm
          obtain ⟨k72,hk75,hl76,hx74⟩:=getI_some hx74
          obtain ⟨cs73,hRcs73,hc77⟩:=ha2.el hx74
          have hScs73:=hRcs73
          obtain ⟨A78,n78,c78,rfl,⟨h78,r78⟩⟩:=(typeRd_out hRcs73)
          have e78:=h78.len; subst e78
          have q78:=len_le r78
          refine RQ.y (wantT (dj:=203) rfl (vb rfl c61)) (Y.indexAddr (m:=k72) (sz:=3) rfl rfl hk75 hl76 (by kernel_rfl))<|RQ.y (wantT (dj:=203) rfl (vb rfl c61)) (Y.loadN (cs:=[.int .i64 x71.kind,.string x71.name,.slice A78 x71.kids.length c78]) rfl (by kernel_rfl) (cells3 (beC (cellT T (hc77 0 _ rfl))) (beC (cellT T (hc77 1 _ rfl))) (beC (cellT T (hc77 2 _ rfl))))) ?_
          obtain ⟨y79,e80,hm⟩:=bnd hm
          refine RQ.call (wantT (dj:=203) rfl (vb rfl c61)) (am3 rfl rfl rfl) (by kernel_rfl) (v:=.bool y79) (bel (K:=fun _=>True) fun w' hb'=>(c_m_spec_l20Def d0 x64 x71 _ e80 _ _ w' (ptArg signatureRd_ok hba0 hSa0 hca0 (Tt T hb')) (stArg (R:=typeRd) (typeRd_in ⟨_,_,_,rfl,⟨SlAt.now typeRd_ok h78 (Nat.le_refl _) (Tt T hb'),r78⟩⟩))))<|RQ.y rfl (Y.pick (b:=true) (v:=.bool y79) (vb rfl c61) rfl)<|RQ.y rfl (Y.assign (v:=.bool y79) rfl)<|RQ.nil ?_
          intro w81 hb82
          have szw81:=hb82.size
          have T:=Tt T hb82
          refine then_n<|wp_ret ?_
          obtain rfl:=sj hm
          exact (blk_r (then_r (ret1 rfl rfl rfl ⟨rfl,T⟩)))
         replace hm:=cT c12 hm
         refine cond_t rfl (vb rfl c12)<|wp_seq<|wp_rbd (by kernel_rfl) (by kernel_rfl)<|RQ.y rfl (Y.move (v:=.pointer (some ⟨ba0,oa0,none⟩)) s0)<|RQ.y rfl (Y.nilCheck rfl)<|RQ.y rfl (Y.fieldAddr (off:=0) rfl (by kernel_rfl))<|RQ.y rfl (Y.load (v:=.slice A1 d0.datas.length c1) rfl (by kernel_rfl) (beC (cellT T (hca0 0 _ rfl))))<|RQ.y rfl (Y.move (v:=.slice Aa2 d2.length ca2) s2) ?_
         obtain ⟨x83,hx86,hm⟩:=bnd hm
         obtain ⟨k84,hk87,hl88,hx86⟩:=getI_some hx86
         obtain ⟨b90,o91,rfl,hbb90⟩:=ha2.addr (by omega)
         obtain ⟨cs85,hRcs85,hc89⟩:=ha2.el hx86
         have hScs85:=hRcs85
         obtain ⟨A92,n92,c92,rfl,⟨h92,r92⟩⟩:=(typeRd_out hRcs85)
         have e92:=h92.len; subst e92
         have q92:=len_le r92
         refine RQ.y rfl (Y.indexAddr (m:=k84) (sz:=3) rfl rfl hk87 hl88 (by kernel_rfl))<|RQ.y rfl (Y.fieldAddr (off:=1) rfl (by kernel_rfl))<|RQ.y rfl (Y.load (v:=.string x83.name) rfl (by kernel_rfl) (beC (cellT T (hc89 1 _ rfl)))) ?_
         obtain ⟨y93,e94,hm⟩:=bnd hm
         refine RQ.call rfl (am2 rfl rfl) (by kernel_rfl) (v:=.int .i64 y93) (bel (K:=fun _=>True) fun w' hb'=>(c_m_spec_l02Named d0.datas x83.name _ e94 _ w' (slArg dataRd_ok h1 r1 (Tt T hb'))))<|RQ.y rfl (Y.assign (v:=.int .i64 y93) rfl)<|RQ.nil ?_
         intro w95 hb96
         have szw95:=hb96.size
         have T:=Tt T hb96
         refine then_n<|wp_seq<|wp_seq<|wp_rbd (by kernel_rfl) (by kernel_rfl)<|RQ.y rfl (Y.move (v:=.slice (some ⟨b90,o91,none⟩) d2.length ca2) s2) ?_
         obtain ⟨x97,hx100,hm⟩:=bnd hm
         obtain ⟨k98,hk101,hl102,hx100⟩:=getI_some hx100
         obtain ⟨cs99,hRcs99,hc103⟩:=ha2.el hx100
         have hScs99:=hRcs99
         obtain ⟨A104,n104,c104,rfl,⟨h104,r104⟩⟩:=(typeRd_out hRcs99)
         have e104:=h104.len; subst e104
         have q104:=len_le r104
         refine RQ.y rfl (Y.indexAddr (m:=k98) (sz:=3) rfl rfl hk101 hl102 (by kernel_rfl))<|RQ.y rfl (Y.fieldAddr (off:=0) rfl (by kernel_rfl))<|RQ.y rfl (Y.load (v:=.int .i64 x97.kind) rfl (by kernel_rfl) (beC (cellT T (hc103 0 _ rfl))))<|RQ.y rfl (Y.binI (v:=.bool (x97.kind != 2)) rfl rfl rfl)<|RQ.y rfl (Y.move (v:=.bool (x97.kind != 2)) rfl) ?_
         rcases bcases (x97.kind != 2) with c105|c105
         ·replace hm:=cF c105 hm
          refine RQ.y (wantT (dj:=131) rfl (vb rfl c105)) (Y.move (v:=.pointer (some ⟨ba0,oa0,none⟩)) s0)<|RQ.y (wantT (dj:=131) rfl (vb rfl c105)) (Y.nilCheck rfl)<|RQ.y (wantT (dj:=131) rfl (vb rfl c105)) (Y.fieldAddr (off:=0) rfl (by kernel_rfl))<|RQ.y (wantT (dj:=131) rfl (vb rfl c105)) (Y.load (v:=.slice A1 d0.datas.length c1) rfl (by kernel_rfl) (beC (cellT T (hca0 0 _ rfl))))<|RQ.y (wantT (dj:=131) rfl (vb rfl c105)) (Y.move (v:=.int .i64 y93) rfl) ?_
          obtain ⟨x106,hx109,hm⟩:=bnd hm
          obtain ⟨k107,hk110,hl111,hx109⟩:=getI_some hx109
          obtain ⟨b113,o114,rfl,hbb113⟩:=h1.addr (by omega)
          obtain ⟨cs108,hRcs108,hc112⟩:=h1.el hx109
          have hScs108:=hRcs108
          obtain ⟨A115,n115,c115,rfl,⟨h115,r115⟩⟩:=hRcs108
          have e115:=h115.len; subst e115
          have q115:=len_le r115
          refine RQ.y (wantT (dj:=131) rfl (vb rfl c105)) (Y.indexAddr (m:=k107) (sz:=2) rfl rfl hk110 hl111 (by kernel_rfl))<|RQ.y (wantT (dj:=131) rfl (vb rfl c105)) (Y.fieldAddr (off:=1) rfl (by kernel_rfl))<|RQ.y (wantT (dj:=131) rfl (vb rfl c105)) (Y.load (v:=.slice A115 x106.cons.length c115) rfl (by kernel_rfl) (beC (cellT T (hc112 1 _ rfl))))<|RQ.y (wantT (dj:=131) rfl (vb rfl c105)) (Y.len (by kernel_rfl) rfl)<|RQ.y (wantT (dj:=131) rfl (vb rfl c105)) (Y.move (v:=.pointer (some ⟨ba1,oa1,none⟩)) s1)<|RQ.y (wantT (dj:=131) rfl (vb rfl c105)) (Y.nilCheck rfl)<|RQ.y (wantT (dj:=131) rfl (vb rfl c105)) (Y.fieldAddr (off:=3) rfl (by kernel_rfl))<|RQ.y (wantT (dj:=131) rfl (vb rfl c105)) (Y.load (v:=.slice A3 d1.data.length c3) rfl (by kernel_rfl) (beC (cellT T (hca1 3 _ rfl))))<|RQ.y (wantT (dj:=131) rfl (vb rfl c105)) (Y.len (by kernel_rfl) rfl)<|RQ.y (wantT (dj:=131) rfl (vb rfl c105)) (Y.binI (v:=.bool ((x106.cons.length:Int) != (d1.data.length:Int))) rfl rfl rfl)<|RQ.y rfl (Y.pick (b:=false) (v:=.bool ((x106.cons.length:Int) != (d1.data.length:Int))) (vb rfl c105) rfl)<|RQ.nil ?_
          intro w116 hb117
          have szw116:=hb117.size
          have T:=Tt T hb117
          refine then_n ?_
          rcases bcases ((x106.cons.length:Int) != (d1.data.length:Int)) with c118|c118
          ·replace hm:=cF c118 hm
           refine cond_f rfl (vb rfl c118)<|wp_skip<|then_n<|wp_seq<|wp_rs rfl<|RQ.y rfl (Y.assign (v:=.int .i64 0) rfl)<|RQ.nil<|then_n<|wp_block ?_
           obtain ⟨K1,hK1,hm⟩ :∃K,K=m_spec_l20Fits_A1∧m_spec_l20Fits_L1 d0 d1 d2 y93 K (d1.data.length+1) 0=some r:=⟨_,rfl,hm⟩
           refine wp_loopX (fun g f w'=>∃(i120:Int),f 0=.pointer (some ⟨ba0,oa0,none⟩)∧f 1=.pointer (some ⟨ba1,oa1,none⟩)∧f 2=.slice (some ⟨b90,o91,none⟩) d2.length ca2∧f 9=.int .i64 y93∧f 10=.int .i64 i120∧0≤i120∧Below w.heap.size w w'∧m_spec_l20Fits_L1 d0 d1 d2 y93 K1 g i120=some r) 3 (fun f w'=>Below w.heap.size w w'∧m_spec_l20Fits_A1  = some r) (d1.data.length+1) ⟨0,s0,s1,s2,rfl,rfl,(by omega),T,hm⟩ ?_ ?_
           ·rintro f w119 ⟨T,hm⟩
            unfold m_spec_l20Fits_A1 at hm
            refine blk_hit (blk_n (then_n ?_))
            refine wp_seq<|wp_rs rfl<|RQ.y rfl (Y.assign (v:=.bool true) rfl)<|RQ.nil<|then_n<|wp_ret ?_
            obtain rfl:=sj hm
            exact (ret1 rfl rfl rfl ⟨rfl,T⟩)
           rintro g f w121 ⟨i120,s0_1,s1_1,s2_1,s9_1,s10_1,nn10_1,T,hm⟩
           rcases g with _|g
           ·simp only [m_spec_l20Fits_L1] at hm; cases hm
           obtain ⟨rec1,hrec1,hm⟩ :∃z,z=m_spec_l20Fits_L1 d0 d1 d2 y93 K1 g∧m_spec_l20Fits_B1 d0 d1 d2 y93 z K1 i120=some r:=⟨_,rfl,hm⟩
           unfold m_spec_l20Fits_B1 at hm
           refine wp_seq<|wp_seq<|wp_rs rfl<|RQ.y rfl (Y.move (v:=.int .i64 i120) s10_1)<|RQ.y rfl (Y.move (v:=.pointer (some ⟨ba1,oa1,none⟩)) s1_1)<|RQ.y rfl (Y.nilCheck rfl)<|RQ.y rfl (Y.fieldAddr (off:=3) rfl (by kernel_rfl))<|RQ.y rfl (Y.load (v:=.slice A3 d1.data.length c3) rfl (by kernel_rfl) (eqC (cellT T (hca1 3 _ rfl))))<|RQ.y rfl (Y.len (by kernel_rfl) rfl)<|RQ.y rfl (Y.binI (v:=.bool (decide (i120 < (d1.data.length:Int)))) rfl rfl rfl)<|RQ.nil<|then_n ?_
           rcases bcases (decide (i120 < (d1.data.length:Int))) with c122|c122
           ·replace hm:=cF c122 hm
            have pc122:=of_decide_eq_false c122
            refine cond_f rfl (vb rfl c122)<|wp_exit ?_
            exact (then_x (then_x (hit_x ⟨_,rfl,⟨T,(by rw [hK1] at hm; exact hm)⟩⟩)))
           replace hm:=cT c122 hm
           have pc122:=of_decide_eq_true c122
           refine cond_t rfl (vb rfl c122)<|wp_skip<|then_n<|wp_seq<|wp_block<|wp_seq ?_
           refine wp_rg (fun w'=>Below w.heap.size w w') [(0,true),(1,true),(2,true),(3,true),(4,true),(5,true),(6,true),(7,true),(8,true),(9,true),(10,true),(11,true),(12,true),(13,true),(14,true),(15,true),(16,true),(17,true),(18,true),(19,true),(20,true),(21,true),(22,true),(23,false),(24,false),(25,true)] (by kernel_rfl) (by kernel_rfl) (fun w123 hb124 szw123=>?_)
           have T:=Tt T hb124
           refine ⟨T,?_⟩
           refine RG.y rfl rfl (Y.move (v:=.pointer (some ⟨ba0,oa0,none⟩)) s0_1)<|RG.y rfl rfl (Y.move (v:=.pointer (some ⟨ba1,oa1,none⟩)) s1_1)<|RG.y rfl rfl (Y.nilCheck rfl)<|RG.y rfl rfl (Y.fieldAddr (off:=3) rfl (by kernel_rfl))<|RG.y rfl rfl (Y.load (v:=.slice A3 d1.data.length c3) rfl (by kernel_rfl) (fun w' hS=>(cellT hS (hca1 3 _ rfl))))<|RG.y rfl rfl (Y.move (v:=.int .i64 i120) s10_1) ?_
           obtain ⟨x125,hx128,hm⟩:=bnd hm
           obtain ⟨k126,hk129,hl130,hx128⟩:=getI_some hx128
           obtain ⟨b132,o133,rfl,hbb132⟩:=h3.addr (by omega)
           obtain ⟨cs127,hRcs127,hc131⟩:=h3.el hx128
           have hScs127:=hRcs127
           obtain rfl:=hRcs127
           refine RG.y rfl rfl (Y.indexAddr (m:=k126) (sz:=1) rfl rfl hk129 hl130 (by kernel_rfl))<|RG.y rfl rfl (Y.load (v:=.int .i64 x125) rfl (by kernel_rfl) (fun w' hS=>(cellT hS (hc131 0 _ rfl))))<|RG.y rfl rfl (Y.move (v:=.pointer (some ⟨ba0,oa0,none⟩)) s0_1)<|RG.y rfl rfl (Y.nilCheck rfl)<|RG.y rfl rfl (Y.fieldAddr (off:=0) rfl (by kernel_rfl))<|RG.y rfl rfl (Y.load (v:=.slice (some ⟨b113,o114,none⟩) d0.datas.length c1) rfl (by kernel_rfl) (fun w' hS=>(cellT hS (hca0 0 _ rfl))))<|RG.y rfl rfl (Y.move (v:=.int .i64 y93) s9_1) ?_
           obtain ⟨x134,hx137,hm⟩:=bnd hm
           obtain ⟨k135,hk138,hl139,hx137⟩:=getI_some hx137
           obtain ⟨cs136,hRcs136,hc140⟩:=h1.el hx137
           have hScs136:=hRcs136
           obtain ⟨A141,n141,c141,rfl,⟨h141,r141⟩⟩:=hRcs136
           have e141:=h141.len; subst e141
           have q141:=len_le r141
           refine RG.y rfl rfl (Y.indexAddr (m:=k135) (sz:=2) rfl rfl hk138 hl139 (by kernel_rfl))<|RG.y rfl rfl (Y.fieldAddr (off:=1) rfl (by kernel_rfl))<|RG.y rfl rfl (Y.load (v:=.slice A141 x134.cons.length c141) rfl (by kernel_rfl) (fun w' hS=>(cellT hS (hc140 1 _ rfl))))<|RG.y rfl rfl (Y.move (v:=.int .i64 i120) s10_1) ?_
           obtain ⟨x142,hx145,hm⟩:=bnd hm
           obtain ⟨k143,hk146,hl147,hx145⟩:=getI_some hx145
           obtain ⟨b149,o150,rfl,hbb149⟩:=h141.addr (by omega)
           obtain ⟨cs144,hRcs144,hc148⟩:=h141.el hx145
           have hScs144:=hRcs144
           obtain ⟨A151,n151,c151,rfl,⟨h151,r151⟩⟩:=hRcs144
           have e151:=h151.len; subst e151
           have q151:=len_le r151
           refine RG.y rfl rfl (Y.indexAddr (m:=k143) (sz:=2) rfl rfl hk146 hl147 (by kernel_rfl))<|RG.y rfl rfl (Y.fieldAddr (off:=1) rfl (by kernel_rfl))<|RG.y rfl rfl (Y.load (v:=.slice A151 x142.fields.length c151) rfl (by kernel_rfl) (fun w' hS=>(cellT hS (hc148 1 _ rfl))))<|RG.y rfl rfl (Y.move (v:=.slice (some ⟨b90,o91,none⟩) d2.length ca2) s2_1) ?_
           obtain ⟨x152,hx155,hm⟩:=bnd hm
           obtain ⟨k153,hk156,hl157,hx155⟩:=getI_some hx155
           obtain ⟨cs154,hRcs154,hc158⟩:=ha2.el hx155
           have hScs154:=hRcs154
           obtain ⟨A159,n159,c159,rfl,⟨h159,r159⟩⟩:=(typeRd_out hRcs154)
           have e159:=h159.len; subst e159
           have q159:=len_le r159
           refine RG.y rfl rfl (Y.indexAddr (m:=k153) (sz:=3) rfl rfl hk156 hl157 (by kernel_rfl))<|RG.y rfl rfl (Y.loadN (cs:=[.int .i64 x152.kind,.string x152.name,.slice A159 x152.kids.length c159]) rfl (by kernel_rfl) (cells3 (fun w' hS=>(cellT hS (hc158 0 _ rfl))) (fun w' hS=>(cellT hS (hc158 1 _ rfl))) (fun w' hS=>(cellT hS (hc158 2 _ rfl)))))<|RG.act rfl ?_
           obtain ⟨y160,e161,hm⟩:=bnd hm
           refine RL.call rfl (am2 rfl rfl) (by kernel_rfl) ((c_l07M x142.fields x152 _ e161 _ _ _ (slArg typeRd_ok h151 r151 T) (stArg (R:=typeRd) (typeRd_in ⟨_,_,_,rfl,⟨SlAt.now typeRd_ok h159 (Nat.le_refl _) T,r159⟩⟩))).mono ?_)
           rintro _ w164 ⟨⟨v162,rfl,hv163⟩,hb165⟩
           refine ⟨_,rfl,?_⟩
           have szw164:=hb165.size
           have T:=Tt T hb165
           obtain ⟨cs167,rfl,hR168⟩:=hv163
           obtain ⟨A169,n169,c169,rfl,⟨h169,r169⟩⟩:=(typeRd_out hR168)
           have e169:=h169.len; subst e169
           have q169:=len_le r169
           have U166:=Below.refl w164.heap.size w164
           refine RL.nil ⟨T,?_⟩
           refine RG.act rfl ?_
           obtain ⟨y170,e171,hm⟩:=bnd hm
           refine RL.call rfl (am3 rfl rfl rfl) (by kernel_rfl) ((c_m_spec_l20Def d0 x125 y160 _ e171 _ _ _ (ptArg signatureRd_ok hba0 hSa0 hca0 T) (stArg (R:=typeRd) (typeRd_in ⟨_,_,_,rfl,⟨SlAt.now typeRd_ok h169 (Nat.le_refl _) U166,r169⟩⟩))).mono ?_)
           rintro _ w172 ⟨rfl,hb173⟩
           refine ⟨_,rfl,?_⟩
           have szw172:=hb173.size
           try have U166:=Tt U166 hb173
           have T:=Tt T hb173
           refine RL.nil ⟨T,?_⟩
           refine RG.y rfl rfl (Y.not (b':=(!y170)) rfl rfl)<|RG.nil<|then_n ?_
           rcases bcases y170 with c174|c174
           ·replace hm:=cF c174 hm
            refine cond_t rfl (vbn rfl c174 rfl)<|wp_seq<|wp_rs rfl<|RQ.y rfl (Y.assign (v:=.bool false) rfl)<|RQ.nil<|then_n<|wp_ret ?_
            obtain rfl:=sj hm
            exact (blk_r (then_r (then_r (hit_r (blk_r (blk_r (then_r (ret1 rfl rfl rfl ⟨rfl,T⟩))))))))
           replace hm:=cT c174 hm
           refine cond_f rfl (vbn rfl c174 rfl)<|wp_skip ?_
           refine blk_n (then_n ?_)
           refine wp_rs rfl<|RQ.y rfl (Y.move (v:=.int .i64 i120) s10_1)<|RQ.y rfl (Y.binI rfl rfl (binI_add (m:=i120) (by omega)))<|RQ.y rfl (Y.assign (v:=.int .i64 (i120+1)) rfl)<|RQ.nil ?_
           exact (then_n ⟨g,_,Nat.lt_succ_self _,rfl,⟨(i120+1),s0_1,s1_1,s2_1,s9_1,rfl,(by omega),T,(by rw [← hrec1]; exact hm)⟩⟩)
          replace hm:=cT c118 hm
          refine cond_t rfl (vb rfl c118)<|wp_seq<|wp_rs rfl<|RQ.y rfl (Y.assign (v:=.bool false) rfl)<|RQ.nil<|then_n<|wp_ret ?_
          obtain rfl:=sj hm
          exact (then_r (blk_r (then_r (ret1 rfl rfl rfl ⟨rfl,T⟩))))
         replace hm:=cT c105 hm
         iterate 15 refine RQ.skip (wantN (dj:=131) rfl (vb rfl c105) rfl) ?_
         refine RQ.y rfl (Y.pick (b:=true) (v:=.bool true) (vb rfl c105) rfl)<|RQ.nil ?_
         intro w176 hb177
         have szw176:=hb177.size
         have T:=Tt T hb177
         refine then_n<|cond_t rfl rfl<|wp_seq<|wp_rs rfl<|RQ.y rfl (Y.assign (v:=.bool false) rfl)<|RQ.nil<|then_n<|wp_ret ?_
         obtain rfl:=sj hm
         exact (then_r (blk_r (then_r (ret1 rfl rfl rfl ⟨rfl,T⟩))))
        replace hm:=cT c11 hm
        refine cond_t rfl (vb rfl c11)<|wp_seq<|wp_rbd (by kernel_rfl) (by kernel_rfl)<|RQ.y rfl (Y.move (v:=.pointer (some ⟨ba0,oa0,none⟩)) s0)<|RQ.y rfl (Y.nilCheck rfl)<|RQ.y rfl (Y.fieldAddr (off:=0) rfl (by kernel_rfl))<|RQ.y rfl (Y.load (v:=.slice A1 d0.datas.length c1) rfl (by kernel_rfl) (beC (cellT T (hca0 0 _ rfl))))<|RQ.y rfl (Y.move (v:=.slice Aa2 d2.length ca2) s2) ?_
        obtain ⟨x178,hx181,hm⟩:=bnd hm
        obtain ⟨k179,hk182,hl183,hx181⟩:=getI_some hx181
        obtain ⟨b185,o186,rfl,hbb185⟩:=ha2.addr (by omega)
        obtain ⟨cs180,hRcs180,hc184⟩:=ha2.el hx181
        have hScs180:=hRcs180
        obtain ⟨A187,n187,c187,rfl,⟨h187,r187⟩⟩:=(typeRd_out hRcs180)
        have e187:=h187.len; subst e187
        have q187:=len_le r187
        refine RQ.y rfl (Y.indexAddr (m:=k179) (sz:=3) rfl rfl hk182 hl183 (by kernel_rfl))<|RQ.y rfl (Y.fieldAddr (off:=1) rfl (by kernel_rfl))<|RQ.y rfl (Y.load (v:=.string x178.name) rfl (by kernel_rfl) (beC (cellT T (hc184 1 _ rfl)))) ?_
        obtain ⟨y188,e189,hm⟩:=bnd hm
        refine RQ.call rfl (am2 rfl rfl) (by kernel_rfl) (v:=.int .i64 y188) (bel (K:=fun _=>True) fun w' hb'=>(c_m_spec_l02Named d0.datas x178.name _ e189 _ w' (slArg dataRd_ok h1 r1 (Tt T hb'))))<|RQ.y rfl (Y.assign (v:=.int .i64 y188) rfl)<|RQ.nil ?_
        intro w190 hb191
        have szw190:=hb191.size
        have T:=Tt T hb191
        refine then_n<|wp_seq<|wp_rbd (by kernel_rfl) (by kernel_rfl)<|RQ.y rfl (Y.move (v:=.slice (some ⟨b185,o186,none⟩) d2.length ca2) s2) ?_
        obtain ⟨x192,hx195,hm⟩:=bnd hm
        obtain ⟨k193,hk196,hl197,hx195⟩:=getI_some hx195
        obtain ⟨cs194,hRcs194,hc198⟩:=ha2.el hx195
        have hScs194:=hRcs194
        obtain ⟨A199,n199,c199,rfl,⟨h199,r199⟩⟩:=(typeRd_out hRcs194)
        have e199:=h199.len; subst e199
        have q199:=len_le r199
        refine RQ.y rfl (Y.indexAddr (m:=k193) (sz:=3) rfl rfl hk196 hl197 (by kernel_rfl))<|RQ.y rfl (Y.fieldAddr (off:=0) rfl (by kernel_rfl))<|RQ.y rfl (Y.load (v:=.int .i64 x192.kind) rfl (by kernel_rfl) (beC (cellT T (hc198 0 _ rfl))))<|RQ.y rfl (Y.binI (v:=.bool (x192.kind==2)) rfl rfl rfl)<|RQ.y rfl (Y.move (v:=.bool (x192.kind==2)) rfl) ?_
        rcases bcases (x192.kind==2) with c200|c200
        ·replace hm:=cF c200 hm
         iterate 14 refine RQ.skip (wantN (dj:=79) rfl (vb rfl c200) rfl) ?_
         refine RQ.y rfl (Y.pick (b:=false) (v:=.bool false) (vb rfl c200) rfl)<|RQ.y rfl (Y.move (v:=.bool false) rfl) ?_
         iterate 18 refine RQ.skip (wantN (dj:=95) rfl rfl rfl) ?_
         refine RQ.y rfl (Y.pick (b:=false) (v:=.bool false) rfl rfl)<|RQ.y rfl (Y.assign (v:=.bool false) rfl)<|RQ.nil ?_
         intro w201 hb202
         have szw201:=hb202.size
         have T:=Tt T hb202
         refine then_n<|wp_ret ?_
         obtain rfl:=sj hm
         exact (blk_r (then_r (ret1 rfl rfl rfl ⟨rfl,T⟩)))
        replace hm:=cT c200 hm
        refine RQ.y (wantT (dj:=79) rfl (vb rfl c200)) (Y.move (v:=.pointer (some ⟨ba1,oa1,none⟩)) s1)<|RQ.y (wantT (dj:=79) rfl (vb rfl c200)) (Y.nilCheck rfl)<|RQ.y (wantT (dj:=79) rfl (vb rfl c200)) (Y.fieldAddr (off:=2) rfl (by kernel_rfl))<|RQ.y (wantT (dj:=79) rfl (vb rfl c200)) (Y.load (v:=.int .i64 d1.value) rfl (by kernel_rfl) (beC (cellT T (hca1 2 _ rfl))))<|RQ.y (wantT (dj:=79) rfl (vb rfl c200)) (Y.move (v:=.pointer (some ⟨ba0,oa0,none⟩)) s0)<|RQ.y (wantT (dj:=79) rfl (vb rfl c200)) (Y.nilCheck rfl)<|RQ.y (wantT (dj:=79) rfl (vb rfl c200)) (Y.fieldAddr (off:=0) rfl (by kernel_rfl))<|RQ.y (wantT (dj:=79) rfl (vb rfl c200)) (Y.load (v:=.slice A1 d0.datas.length c1) rfl (by kernel_rfl) (beC (cellT T (hca0 0 _ rfl))))<|RQ.y (wantT (dj:=79) rfl (vb rfl c200)) (Y.move (v:=.int .i64 y188) rfl) ?_
        obtain ⟨x203,hx206,hm⟩:=bnd hm
        obtain ⟨k204,hk207,hl208,hx206⟩:=getI_some hx206
        obtain ⟨b210,o211,rfl,hbb210⟩:=h1.addr (by omega)
        obtain ⟨cs205,hRcs205,hc209⟩:=h1.el hx206
        have hScs205:=hRcs205
        obtain ⟨A212,n212,c212,rfl,⟨h212,r212⟩⟩:=hRcs205
        have e212:=h212.len; subst e212
        have q212:=len_le r212
        refine RQ.y (wantT (dj:=79) rfl (vb rfl c200)) (Y.indexAddr (m:=k204) (sz:=2) rfl rfl hk207 hl208 (by kernel_rfl))<|RQ.y (wantT (dj:=79) rfl (vb rfl c200)) (Y.fieldAddr (off:=1) rfl (by kernel_rfl))<|RQ.y (wantT (dj:=79) rfl (vb rfl c200)) (Y.load (v:=.slice A212 x203.cons.length c212) rfl (by kernel_rfl) (beC (cellT T (hc209 1 _ rfl))))<|RQ.y (wantT (dj:=79) rfl (vb rfl c200)) (Y.len (by kernel_rfl) rfl)<|RQ.y (wantT (dj:=79) rfl (vb rfl c200)) (Y.binI (v:=.bool (decide (d1.value < (x203.cons.length:Int)))) rfl rfl rfl)<|RQ.y rfl (Y.pick (b:=true) (v:=.bool (decide (d1.value < (x203.cons.length:Int)))) (vb rfl c200) rfl)<|RQ.y rfl (Y.move (v:=.bool (decide (d1.value < (x203.cons.length:Int)))) rfl) ?_
        rcases bcases (decide (d1.value < (x203.cons.length:Int))) with c213|c213
        ·replace hm:=cF c213 hm
         have pc213:=of_decide_eq_false c213
         iterate 18 refine RQ.skip (wantN (dj:=95) rfl (vb rfl c213) rfl) ?_
         refine RQ.y rfl (Y.pick (b:=false) (v:=.bool false) (vb rfl c213) rfl)<|RQ.y rfl (Y.assign (v:=.bool false) rfl)<|RQ.nil ?_
         intro w214 hb215
         have szw214:=hb215.size
         have T:=Tt T hb215
         refine then_n<|wp_ret ?_
         obtain rfl:=sj hm
         exact (blk_r (then_r (ret1 rfl rfl rfl ⟨rfl,T⟩)))
        replace hm:=cT c213 hm
        have pc213:=of_decide_eq_true c213
        refine RQ.y (wantT (dj:=95) rfl (vb rfl c213)) (Y.move (v:=.pointer (some ⟨ba0,oa0,none⟩)) s0)<|RQ.y (wantT (dj:=95) rfl (vb rfl c213)) (Y.nilCheck rfl)<|RQ.y (wantT (dj:=95) rfl (vb rfl c213)) (Y.fieldAddr (off:=0) rfl (by kernel_rfl))<|RQ.y (wantT (dj:=95) rfl (vb rfl c213)) (Y.load (v:=.slice (some ⟨b210,o211,none⟩) d0.datas.length c1) rfl (by kernel_rfl) (beC (cellT T (hca0 0 _ rfl))))<|RQ.y (wantT (dj:=95) rfl (vb rfl c213)) (Y.move (v:=.int .i64 y188) rfl) ?_
        obtain ⟨x216,hx219,hm⟩:=bnd hm
        obtain ⟨k217,hk220,hl221,hx219⟩:=getI_some hx219
        obtain ⟨cs218,hRcs218,hc222⟩:=h1.el hx219
        have hScs218:=hRcs218
        obtain ⟨A223,n223,c223,rfl,⟨h223,r223⟩⟩:=hRcs218
        have e223:=h223.len; subst e223
        have q223:=len_le r223
        refine RQ.y (wantT (dj:=95) rfl (vb rfl c213)) (Y.indexAddr (m:=k217) (sz:=2) rfl rfl hk220 hl221 (by kernel_rfl))<|RQ.y (wantT (dj:=95) rfl (vb rfl c213)) (Y.fieldAddr (off:=1) rfl (by kernel_rfl))<|RQ.y (wantT (dj:=95) rfl (vb rfl c213)) (Y.load (v:=.slice A223 x216.cons.length c223) rfl (by kernel_rfl) (beC (cellT T (hc222 1 _ rfl))))<|RQ.y (wantT (dj:=95) rfl (vb rfl c213)) (Y.move (v:=.pointer (some ⟨ba1,oa1,none⟩)) s1)<|RQ.y (wantT (dj:=95) rfl (vb rfl c213)) (Y.nilCheck rfl)<|RQ.y (wantT (dj:=95) rfl (vb rfl c213)) (Y.fieldAddr (off:=2) rfl (by kernel_rfl))<|RQ.y (wantT (dj:=95) rfl (vb rfl c213)) (Y.load (v:=.int .i64 d1.value) rfl (by kernel_rfl) (beC (cellT T (hca1 2 _ rfl)))) ?_
        obtain ⟨x224,hx227,hm⟩:=bnd hm
        obtain ⟨k225,hk228,hl229,hx227⟩:=getI_some hx227
        obtain ⟨b231,o232,rfl,hbb231⟩:=h223.addr (by omega)
        obtain ⟨cs226,hRcs226,hc230⟩:=h223.el hx227
        have hScs226:=hRcs226
        obtain ⟨A233,n233,c233,rfl,⟨h233,r233⟩⟩:=hRcs226
        have e233:=h233.len; subst e233
        have q233:=len_le r233
        refine RQ.y (wantT (dj:=95) rfl (vb rfl c213)) (Y.indexAddr (m:=k225) (sz:=2) rfl rfl hk228 hl229 (by kernel_rfl))<|RQ.y (wantT (dj:=95) rfl (vb rfl c213)) (Y.fieldAddr (off:=1) rfl (by kernel_rfl))<|RQ.y (wantT (dj:=95) rfl (vb rfl c213)) (Y.load (v:=.slice A233 x224.fields.length c233) rfl (by kernel_rfl) (beC (cellT T (hc230 1 _ rfl))))<|RQ.y (wantT (dj:=95) rfl (vb rfl c213)) (Y.move (v:=.slice (some ⟨b185,o186,none⟩) d2.length ca2) s2) ?_
        obtain ⟨_,m234,hm⟩:=bnd hm
        have hk235:=mustP_some m234
        obtain ⟨Av236,eA237⟩ :∃Av,(if ca2=1 then (some ⟨b185,o186,none⟩) else ((some ⟨b185,o186,none⟩):Option Addr).map (·.add (1 * 3)))=Av:=⟨_,rfl⟩
        have ⟨h238,r239⟩:=SlAt.dropV ha2 ra2 hk235 eA237
        refine RQ.y (wantT (dj:=95) rfl (vb rfl c213)) (Y.sliceL (l:=1) (sz:=3) rfl rfl rfl hk235 (by kernel_rfl) eA237) ?_
        obtain ⟨y240,e241,hm⟩:=bnd hm
        refine RQ.call (wantT (dj:=95) rfl (vb rfl c213)) (am2 rfl rfl) (by kernel_rfl) (v:=.bool y240) (bel (K:=fun _=>True) fun w' hb'=>(c_m_spec_l03SameTypes x224.fields (d2.drop 1) _ e241 _ _ w' (slArg typeRd_ok h233 r233 (Tt T hb')) (slArg typeRd_ok h238 r239 (Tt T hb'))))<|RQ.y rfl (Y.pick (b:=true) (v:=.bool y240) (vb rfl c213) rfl)<|RQ.y rfl (Y.assign (v:=.bool y240) rfl)<|RQ.nil ?_
        intro w242 hb243
        have szw242:=hb243.size
        have T:=Tt T hb243
        refine then_n<|wp_ret ?_
        obtain rfl:=sj hm
        exact (blk_r (then_r (ret1 rfl rfl rfl ⟨rfl,T⟩)))
       replace hm:=cT c10 hm
       refine cond_t rfl (vb rfl c10)<|wp_seq<|wp_rs rfl<|RQ.y rfl (Y.assign (v:=.int .i64 0) rfl)<|RQ.nil<|then_n<|wp_block ?_
       obtain ⟨K2,hK2,hm⟩ :∃K,K=m_spec_l20Fits_A2∧m_spec_l20Fits_L2 d2 K (d2.length+1) 0=some r:=⟨_,rfl,hm⟩
       refine wp_loopX (fun g f w'=>∃(i245:Int),f 2=.slice Aa2 d2.length ca2∧f 7=.int .i64 i245∧0≤i245∧Below w.heap.size w w'∧m_spec_l20Fits_L2 d2 K2 g i245=some r) 1 (fun f w'=>Below w.heap.size w w'∧m_spec_l20Fits_A2  = some r) (d2.length+1) ⟨0,s2,rfl,(by omega),T,hm⟩ ?_ ?_
       ·rintro f w244 ⟨T,hm⟩
        unfold m_spec_l20Fits_A2 at hm
        refine blk_hit (blk_n (then_n ?_))
        refine wp_seq<|wp_rs rfl<|RQ.y rfl (Y.assign (v:=.bool true) rfl)<|RQ.nil<|then_n<|wp_ret ?_
        obtain rfl:=sj hm
        exact (ret1 rfl rfl rfl ⟨rfl,T⟩)
       rintro g f w246 ⟨i245,s2_2,s7_2,nn7_2,T,hm⟩
       rcases g with _|g
       ·simp only [m_spec_l20Fits_L2] at hm; cases hm
       obtain ⟨rec2,hrec2,hm⟩ :∃z,z=m_spec_l20Fits_L2 d2 K2 g∧m_spec_l20Fits_B2 d2 z K2 i245=some r:=⟨_,rfl,hm⟩
       unfold m_spec_l20Fits_B2 at hm
       refine wp_seq<|wp_seq<|wp_rs rfl<|RQ.y rfl (Y.move (v:=.int .i64 i245) s7_2)<|RQ.y rfl (Y.move (v:=.slice Aa2 d2.length ca2) s2_2)<|RQ.y rfl (Y.len (by kernel_rfl) rfl)<|RQ.y rfl (Y.binI (v:=.bool (decide (i245 < (d2.length:Int)))) rfl rfl rfl)<|RQ.nil<|then_n ?_
       rcases bcases (decide (i245 < (d2.length:Int))) with c247|c247
       ·replace hm:=cF c247 hm
        have pc247:=of_decide_eq_false c247
        refine cond_f rfl (vb rfl c247)<|wp_exit ?_
        exact (then_x (then_x (hit_x ⟨_,rfl,⟨T,(by rw [hK2] at hm; exact hm)⟩⟩)))
       replace hm:=cT c247 hm
       have pc247:=of_decide_eq_true c247
       refine cond_t rfl (vb rfl c247)<|wp_skip<|then_n<|wp_seq<|wp_block<|wp_seq<|wp_rs rfl<|RQ.y rfl (Y.move (v:=.slice Aa2 d2.length ca2) s2_2)<|RQ.y rfl (Y.move (v:=.int .i64 i245) s7_2) ?_
       obtain ⟨x248,hx251,hm⟩:=bnd hm
       obtain ⟨k249,hk252,hl253,hx251⟩:=getI_some hx251
       obtain ⟨b255,o256,rfl,hbb255⟩:=ha2.addr (by omega)
       obtain ⟨cs250,hRcs250,hc254⟩:=ha2.el hx251
       have hScs250:=hRcs250
       obtain ⟨A257,n257,c257,rfl,⟨h257,r257⟩⟩:=(typeRd_out hRcs250)
       have e257:=h257.len; subst e257
       have q257:=len_le r257
       refine RQ.y rfl (Y.indexAddr (m:=k249) (sz:=3) rfl rfl hk252 hl253 (by kernel_rfl))<|RQ.y rfl (Y.fieldAddr (off:=0) rfl (by kernel_rfl))<|RQ.y rfl (Y.load (v:=.int .i64 x248.kind) rfl (by kernel_rfl) (eqC (cellT T (hc254 0 _ rfl))))<|RQ.y rfl (Y.binI (v:=.bool (x248.kind != 1)) rfl rfl rfl)<|RQ.nil<|then_n ?_
       rcases bcases (x248.kind != 1) with c258|c258
       ·replace hm:=cF c258 hm
        refine cond_f rfl (vb rfl c258)<|wp_skip ?_
        refine blk_n (then_n ?_)
        refine wp_rs rfl<|RQ.y rfl (Y.move (v:=.int .i64 i245) s7_2)<|RQ.y rfl (Y.binI rfl rfl (binI_add (m:=i245) (by omega)))<|RQ.y rfl (Y.assign (v:=.int .i64 (i245+1)) rfl)<|RQ.nil ?_
        exact (then_n ⟨g,_,Nat.lt_succ_self _,rfl,⟨(i245+1),s2_2,rfl,(by omega),T,(by rw [← hrec2]; exact hm)⟩⟩)
       replace hm:=cT c258 hm
       refine cond_t rfl (vb rfl c258)<|wp_seq<|wp_rs rfl<|RQ.y rfl (Y.assign (v:=.bool false) rfl)<|RQ.nil<|then_n<|wp_ret ?_
       obtain rfl:=sj hm
       exact (blk_r (then_r (then_r (hit_r (blk_r (blk_r (then_r (ret1 rfl rfl rfl ⟨rfl,T⟩))))))))
      replace hm:=cT c9 hm
      refine cond_t rfl (vb rfl c9)<|wp_skip<|then_n<|cond_t rfl (vb rfl c9)<|wp_seq<|wp_rs rfl<|RQ.y rfl (Y.assign (v:=.int .i64 0) rfl)<|RQ.nil<|then_n<|wp_block ?_
      obtain ⟨K3,hK3,hm⟩ :∃K,K=m_spec_l20Fits_A3∧m_spec_l20Fits_L3 d2 K (d2.length+1) 0=some r:=⟨_,rfl,hm⟩
      refine wp_loopX (fun g f w'=>∃(i261:Int),f 2=.slice Aa2 d2.length ca2∧f 7=.int .i64 i261∧0≤i261∧Below w.heap.size w w'∧m_spec_l20Fits_L3 d2 K3 g i261=some r) 1 (fun f w'=>Below w.heap.size w w'∧m_spec_l20Fits_A3  = some r) (d2.length+1) ⟨0,s2,rfl,(by omega),T,hm⟩ ?_ ?_
      ·rintro f w260 ⟨T,hm⟩
       unfold m_spec_l20Fits_A3 at hm
       refine blk_hit (blk_n (then_n ?_))
       refine wp_seq<|wp_rs rfl<|RQ.y rfl (Y.assign (v:=.bool true) rfl)<|RQ.nil<|then_n<|wp_ret ?_
       obtain rfl:=sj hm
       exact (ret1 rfl rfl rfl ⟨rfl,T⟩)
      rintro g f w262 ⟨i261,s2_3,s7_3,nn7_3,T,hm⟩
      rcases g with _|g
      ·simp only [m_spec_l20Fits_L3] at hm; cases hm
      obtain ⟨rec3,hrec3,hm⟩ :∃z,z=m_spec_l20Fits_L3 d2 K3 g∧m_spec_l20Fits_B3 d2 z K3 i261=some r:=⟨_,rfl,hm⟩
      unfold m_spec_l20Fits_B3 at hm
      refine wp_seq<|wp_seq<|wp_rs rfl<|RQ.y rfl (Y.move (v:=.int .i64 i261) s7_3)<|RQ.y rfl (Y.move (v:=.slice Aa2 d2.length ca2) s2_3)<|RQ.y rfl (Y.len (by kernel_rfl) rfl)<|RQ.y rfl (Y.binI (v:=.bool (decide (i261 < (d2.length:Int)))) rfl rfl rfl)<|RQ.nil<|then_n ?_
      rcases bcases (decide (i261 < (d2.length:Int))) with c263|c263
      ·replace hm:=cF c263 hm
       have pc263:=of_decide_eq_false c263
       refine cond_f rfl (vb rfl c263)<|wp_exit ?_
       exact (then_x (then_x (hit_x ⟨_,rfl,⟨T,(by rw [hK3] at hm; exact hm)⟩⟩)))
      replace hm:=cT c263 hm
      have pc263:=of_decide_eq_true c263
      refine cond_t rfl (vb rfl c263)<|wp_skip<|then_n<|wp_seq<|wp_block<|wp_seq<|wp_rs rfl<|RQ.y rfl (Y.move (v:=.slice Aa2 d2.length ca2) s2_3)<|RQ.y rfl (Y.move (v:=.int .i64 i261) s7_3) ?_
      obtain ⟨x264,hx267,hm⟩:=bnd hm
      obtain ⟨k265,hk268,hl269,hx267⟩:=getI_some hx267
      obtain ⟨b271,o272,rfl,hbb271⟩:=ha2.addr (by omega)
      obtain ⟨cs266,hRcs266,hc270⟩:=ha2.el hx267
      have hScs266:=hRcs266
      obtain ⟨A273,n273,c273,rfl,⟨h273,r273⟩⟩:=(typeRd_out hRcs266)
      have e273:=h273.len; subst e273
      have q273:=len_le r273
      refine RQ.y rfl (Y.indexAddr (m:=k265) (sz:=3) rfl rfl hk268 hl269 (by kernel_rfl))<|RQ.y rfl (Y.fieldAddr (off:=0) rfl (by kernel_rfl))<|RQ.y rfl (Y.load (v:=.int .i64 x264.kind) rfl (by kernel_rfl) (eqC (cellT T (hc270 0 _ rfl))))<|RQ.y rfl (Y.binI (v:=.bool (x264.kind != 1)) rfl rfl rfl)<|RQ.nil<|then_n ?_
      rcases bcases (x264.kind != 1) with c274|c274
      ·replace hm:=cF c274 hm
       refine cond_f rfl (vb rfl c274)<|wp_skip ?_
       refine blk_n (then_n ?_)
       refine wp_rs rfl<|RQ.y rfl (Y.move (v:=.int .i64 i261) s7_3)<|RQ.y rfl (Y.binI rfl rfl (binI_add (m:=i261) (by omega)))<|RQ.y rfl (Y.assign (v:=.int .i64 (i261+1)) rfl)<|RQ.nil ?_
       exact (then_n ⟨g,_,Nat.lt_succ_self _,rfl,⟨(i261+1),s2_3,rfl,(by omega),T,(by rw [← hrec3]; exact hm)⟩⟩)
      replace hm:=cT c274 hm
      refine cond_t rfl (vb rfl c274)<|wp_seq<|wp_rs rfl<|RQ.y rfl (Y.assign (v:=.bool false) rfl)<|RQ.nil<|then_n<|wp_ret ?_
      obtain rfl:=sj hm
      exact (blk_r (then_r (then_r (hit_r (blk_r (blk_r (then_r (ret1 rfl rfl rfl ⟨rfl,T⟩))))))))
     replace hm:=cT c8 hm
     refine cond_t rfl (vb rfl c8)<|wp_skip<|then_n<|cond_t rfl (vb rfl c8)<|wp_seq<|wp_rs rfl<|RQ.y rfl (Y.assign (v:=.int .i64 0) rfl)<|RQ.nil<|then_n<|wp_block ?_
     obtain ⟨K4,hK4,hm⟩ :∃K,K=m_spec_l20Fits_A4∧m_spec_l20Fits_L4 d2 K (d2.length+1) 0=some r:=⟨_,rfl,hm⟩
     refine wp_loopX (fun g f w'=>∃(i277:Int),f 2=.slice Aa2 d2.length ca2∧f 7=.int .i64 i277∧0≤i277∧Below w.heap.size w w'∧m_spec_l20Fits_L4 d2 K4 g i277=some r) 1 (fun f w'=>Below w.heap.size w w'∧m_spec_l20Fits_A4  = some r) (d2.length+1) ⟨0,s2,rfl,(by omega),T,hm⟩ ?_ ?_
     ·rintro f w276 ⟨T,hm⟩
      unfold m_spec_l20Fits_A4 at hm
      refine blk_hit (blk_n (then_n ?_))
      refine wp_seq<|wp_rs rfl<|RQ.y rfl (Y.assign (v:=.bool true) rfl)<|RQ.nil<|then_n<|wp_ret ?_
      obtain rfl:=sj hm
      exact (ret1 rfl rfl rfl ⟨rfl,T⟩)
     rintro g f w278 ⟨i277,s2_4,s7_4,nn7_4,T,hm⟩
     rcases g with _|g
     ·simp only [m_spec_l20Fits_L4] at hm; cases hm
     obtain ⟨rec4,hrec4,hm⟩ :∃z,z=m_spec_l20Fits_L4 d2 K4 g∧m_spec_l20Fits_B4 d2 z K4 i277=some r:=⟨_,rfl,hm⟩
     unfold m_spec_l20Fits_B4 at hm
     refine wp_seq<|wp_seq<|wp_rs rfl<|RQ.y rfl (Y.move (v:=.int .i64 i277) s7_4)<|RQ.y rfl (Y.move (v:=.slice Aa2 d2.length ca2) s2_4)<|RQ.y rfl (Y.len (by kernel_rfl) rfl)<|RQ.y rfl (Y.binI (v:=.bool (decide (i277 < (d2.length:Int)))) rfl rfl rfl)<|RQ.nil<|then_n ?_
     rcases bcases (decide (i277 < (d2.length:Int))) with c279|c279
     ·replace hm:=cF c279 hm
      have pc279:=of_decide_eq_false c279
      refine cond_f rfl (vb rfl c279)<|wp_exit ?_
      exact (then_x (then_x (hit_x ⟨_,rfl,⟨T,(by rw [hK4] at hm; exact hm)⟩⟩)))
     replace hm:=cT c279 hm
     have pc279:=of_decide_eq_true c279
     refine cond_t rfl (vb rfl c279)<|wp_skip<|then_n<|wp_seq<|wp_block<|wp_seq<|wp_rs rfl<|RQ.y rfl (Y.move (v:=.slice Aa2 d2.length ca2) s2_4)<|RQ.y rfl (Y.move (v:=.int .i64 i277) s7_4) ?_
     obtain ⟨x280,hx283,hm⟩:=bnd hm
     obtain ⟨k281,hk284,hl285,hx283⟩:=getI_some hx283
     obtain ⟨b287,o288,rfl,hbb287⟩:=ha2.addr (by omega)
     obtain ⟨cs282,hRcs282,hc286⟩:=ha2.el hx283
     have hScs282:=hRcs282
     obtain ⟨A289,n289,c289,rfl,⟨h289,r289⟩⟩:=(typeRd_out hRcs282)
     have e289:=h289.len; subst e289
     have q289:=len_le r289
     refine RQ.y rfl (Y.indexAddr (m:=k281) (sz:=3) rfl rfl hk284 hl285 (by kernel_rfl))<|RQ.y rfl (Y.fieldAddr (off:=0) rfl (by kernel_rfl))<|RQ.y rfl (Y.load (v:=.int .i64 x280.kind) rfl (by kernel_rfl) (eqC (cellT T (hc286 0 _ rfl))))<|RQ.y rfl (Y.binI (v:=.bool (x280.kind != 1)) rfl rfl rfl)<|RQ.nil<|then_n ?_
     rcases bcases (x280.kind != 1) with c290|c290
     ·replace hm:=cF c290 hm
      refine cond_f rfl (vb rfl c290)<|wp_skip ?_
      refine blk_n (then_n ?_)
      refine wp_rs rfl<|RQ.y rfl (Y.move (v:=.int .i64 i277) s7_4)<|RQ.y rfl (Y.binI rfl rfl (binI_add (m:=i277) (by omega)))<|RQ.y rfl (Y.assign (v:=.int .i64 (i277+1)) rfl)<|RQ.nil ?_
      exact (then_n ⟨g,_,Nat.lt_succ_self _,rfl,⟨(i277+1),s2_4,rfl,(by omega),T,(by rw [← hrec4]; exact hm)⟩⟩)
     replace hm:=cT c290 hm
     refine cond_t rfl (vb rfl c290)<|wp_seq<|wp_rs rfl<|RQ.y rfl (Y.assign (v:=.bool false) rfl)<|RQ.nil<|then_n<|wp_ret ?_
     obtain rfl:=sj hm
     exact (blk_r (then_r (then_r (hit_r (blk_r (blk_r (then_r (ret1 rfl rfl rfl ⟨rfl,T⟩))))))))
    replace hm:=cT c7 hm
    refine cond_t rfl (vb rfl c7)<|wp_seq<|wp_rbd (by kernel_rfl) (by kernel_rfl)<|RQ.y rfl (Y.move (v:=.slice Aa2 d2.length ca2) s2) ?_
    obtain ⟨x292,hx295,hm⟩:=bnd hm
    obtain ⟨k293,hk296,hl297,hx295⟩:=getI_some hx295
    obtain ⟨b299,o300,rfl,hbb299⟩:=ha2.addr (by omega)
    obtain ⟨cs294,hRcs294,hc298⟩:=ha2.el hx295
    have hScs294:=hRcs294
    obtain ⟨A301,n301,c301,rfl,⟨h301,r301⟩⟩:=(typeRd_out hRcs294)
    have e301:=h301.len; subst e301
    have q301:=len_le r301
    refine RQ.y rfl (Y.indexAddr (m:=k293) (sz:=3) rfl rfl hk296 hl297 (by kernel_rfl))<|RQ.y rfl (Y.loadN (cs:=[.int .i64 x292.kind,.string x292.name,.slice A301 x292.kids.length c301]) rfl (by kernel_rfl) (cells3 (beC (cellT T (hc298 0 _ rfl))) (beC (cellT T (hc298 1 _ rfl))) (beC (cellT T (hc298 2 _ rfl)))))<|RQ.y rfl (Y.move (v:=.slice (some ⟨b299,o300,none⟩) d2.length ca2) s2) ?_
    obtain ⟨x302,hx305,hm⟩:=bnd hm
    obtain ⟨k303,hk306,hl307,hx305⟩:=getI_some hx305
    obtain ⟨cs304,hRcs304,hc308⟩:=ha2.el hx305
    have hScs304:=hRcs304
    obtain ⟨A309,n309,c309,rfl,⟨h309,r309⟩⟩:=(typeRd_out hRcs304)
    have e309:=h309.len; subst e309
    have q309:=len_le r309
    refine RQ.y rfl (Y.indexAddr (m:=k303) (sz:=3) rfl rfl hk306 hl307 (by kernel_rfl))<|RQ.y rfl (Y.loadN (cs:=[.int .i64 x302.kind,.string x302.name,.slice A309 x302.kids.length c309]) rfl (by kernel_rfl) (cells3 (beC (cellT T (hc308 0 _ rfl))) (beC (cellT T (hc308 1 _ rfl))) (beC (cellT T (hc308 2 _ rfl))))) ?_
    obtain ⟨y310,e311,hm⟩:=bnd hm
    refine RQ.call rfl (am2 rfl rfl) (by kernel_rfl) (v:=.bool y310) (bel (K:=fun _=>True) fun w' hb'=>(c_m_spec_SameType (SizeOf.sizeOf x292) x292 x302 _ e311 _ _ w' (stArg (R:=typeRd) (typeRd_in ⟨_,_,_,rfl,⟨SlAt.now typeRd_ok h301 (Nat.le_refl _) (Tt T hb'),r301⟩⟩)) (stArg (R:=typeRd) (typeRd_in ⟨_,_,_,rfl,⟨SlAt.now typeRd_ok h309 (Nat.le_refl _) (Tt T hb'),r309⟩⟩))))<|RQ.y rfl (Y.move (v:=.bool y310) rfl) ?_
    rcases bcases y310 with c312|c312
    ·replace hm:=cF c312 hm
     iterate 7 refine RQ.skip (wantN (dj:=38) rfl (vb rfl c312) rfl) ?_
     refine RQ.y rfl (Y.pick (b:=false) (v:=.bool false) (vb rfl c312) rfl)<|RQ.y rfl (Y.assign (v:=.bool false) rfl)<|RQ.nil ?_
     intro w313 hb314
     have szw313:=hb314.size
     have T:=Tt T hb314
     refine then_n<|wp_ret ?_
     obtain rfl:=sj hm
     exact (blk_r (then_r (ret1 rfl rfl rfl ⟨rfl,T⟩)))
    replace hm:=cT c312 hm
    refine RQ.y (wantT (dj:=38) rfl (vb rfl c312)) (Y.move (v:=.slice (some ⟨b299,o300,none⟩) d2.length ca2) s2) ?_
    obtain ⟨x315,hx318,hm⟩:=bnd hm
    obtain ⟨k316,hk319,hl320,hx318⟩:=getI_some hx318
    obtain ⟨cs317,hRcs317,hc321⟩:=ha2.el hx318
    have hScs317:=hRcs317
    obtain ⟨A322,n322,c322,rfl,⟨h322,r322⟩⟩:=(typeRd_out hRcs317)
    have e322:=h322.len; subst e322
    have q322:=len_le r322
    refine RQ.y (wantT (dj:=38) rfl (vb rfl c312)) (Y.indexAddr (m:=k316) (sz:=3) rfl rfl hk319 hl320 (by kernel_rfl))<|RQ.y (wantT (dj:=38) rfl (vb rfl c312)) (Y.loadN (cs:=[.int .i64 x315.kind,.string x315.name,.slice A322 x315.kids.length c322]) rfl (by kernel_rfl) (cells3 (beC (cellT T (hc321 0 _ rfl))) (beC (cellT T (hc321 1 _ rfl))) (beC (cellT T (hc321 2 _ rfl)))))<|RQ.y (wantT (dj:=38) rfl (vb rfl c312)) (Y.move (v:=.slice (some ⟨b299,o300,none⟩) d2.length ca2) s2) ?_
    obtain ⟨x323,hx326,hm⟩:=bnd hm
    obtain ⟨k324,hk327,hl328,hx326⟩:=getI_some hx326
    obtain ⟨cs325,hRcs325,hc329⟩:=ha2.el hx326
    have hScs325:=hRcs325
    obtain ⟨A330,n330,c330,rfl,⟨h330,r330⟩⟩:=(typeRd_out hRcs325)
    have e330:=h330.len; subst e330
    have q330:=len_le r330
    refine RQ.y (wantT (dj:=38) rfl (vb rfl c312)) (Y.indexAddr (m:=k324) (sz:=3) rfl rfl hk327 hl328 (by kernel_rfl))<|RQ.y (wantT (dj:=38) rfl (vb rfl c312)) (Y.loadN (cs:=[.int .i64 x323.kind,.string x323.name,.slice A330 x323.kids.length c330]) rfl (by kernel_rfl) (cells3 (beC (cellT T (hc329 0 _ rfl))) (beC (cellT T (hc329 1 _ rfl))) (beC (cellT T (hc329 2 _ rfl))))) ?_
    obtain ⟨y331,e332,hm⟩:=bnd hm
    refine RQ.call (wantT (dj:=38) rfl (vb rfl c312)) (am2 rfl rfl) (by kernel_rfl) (v:=.bool y331) (bel (K:=fun _=>True) fun w' hb'=>(c_m_spec_SameType (SizeOf.sizeOf x315) x315 x323 _ e332 _ _ w' (stArg (R:=typeRd) (typeRd_in ⟨_,_,_,rfl,⟨SlAt.now typeRd_ok h322 (Nat.le_refl _) (Tt T hb'),r322⟩⟩)) (stArg (R:=typeRd) (typeRd_in ⟨_,_,_,rfl,⟨SlAt.now typeRd_ok h330 (Nat.le_refl _) (Tt T hb'),r330⟩⟩))))<|RQ.y rfl (Y.pick (b:=true) (v:=.bool y331) (vb rfl c312) rfl)<|RQ.y rfl (Y.assign (v:=.bool y331) rfl)<|RQ.nil ?_
    intro w333 hb334
    have szw333:=hb334.size
    have T:=Tt T hb334
    refine then_n<|wp_ret ?_
    obtain rfl:=sj hm
    exact (blk_r (then_r (ret1 rfl rfl rfl ⟨rfl,T⟩)))
   replace hm:=cT c6 hm
   refine cond_t rfl (vb rfl c6)<|wp_seq ?_
   refine wp_rg (fun w'=>Below w.heap.size w w') [(0,true),(1,true),(2,true),(3,true),(4,true),(5,true),(6,true),(7,true),(8,true),(9,false),(10,false),(11,true)] (by kernel_rfl) (by kernel_rfl) (fun w335 hb336 szw335=>?_)
   have T:=Tt T hb336
   refine ⟨T,?_⟩
   refine RG.y rfl rfl (Y.move (v:=.slice Aa2 d2.length ca2) s2) ?_
   obtain ⟨x337,hx340,hm⟩:=bnd hm
   obtain ⟨k338,hk341,hl342,hx340⟩:=getI_some hx340
   obtain ⟨b344,o345,rfl,hbb344⟩:=ha2.addr (by omega)
   obtain ⟨cs339,hRcs339,hc343⟩:=ha2.el hx340
   have hScs339:=hRcs339
   obtain ⟨A346,n346,c346,rfl,⟨h346,r346⟩⟩:=(typeRd_out hRcs339)
   have e346:=h346.len; subst e346
   have q346:=len_le r346
   refine RG.y rfl rfl (Y.indexAddr (m:=k338) (sz:=3) rfl rfl hk341 hl342 (by kernel_rfl))<|RG.y rfl rfl (Y.loadN (cs:=[.int .i64 x337.kind,.string x337.name,.slice A346 x337.kids.length c346]) rfl (by kernel_rfl) (cells3 (fun w' hS=>(cellT hS (hc343 0 _ rfl))) (fun w' hS=>(cellT hS (hc343 1 _ rfl))) (fun w' hS=>(cellT hS (hc343 2 _ rfl)))))<|RG.y rfl rfl (Y.move (v:=.slice (some ⟨b344,o345,none⟩) d2.length ca2) s2) ?_
   obtain ⟨x347,hx350,hm⟩:=bnd hm
   obtain ⟨k348,hk351,hl352,hx350⟩:=getI_some hx350
   obtain ⟨cs349,hRcs349,hc353⟩:=ha2.el hx350
   have hScs349:=hRcs349
   obtain ⟨A354,n354,c354,rfl,⟨h354,r354⟩⟩:=(typeRd_out hRcs349)
   have e354:=h354.len; subst e354
   have q354:=len_le r354
   refine RG.y rfl rfl (Y.indexAddr (m:=k348) (sz:=3) rfl rfl hk351 hl352 (by kernel_rfl))<|RG.y rfl rfl (Y.loadN (cs:=[.int .i64 x347.kind,.string x347.name,.slice A354 x347.kids.length c354]) rfl (by kernel_rfl) (cells3 (fun w' hS=>(cellT hS (hc353 0 _ rfl))) (fun w' hS=>(cellT hS (hc353 1 _ rfl))) (fun w' hS=>(cellT hS (hc353 2 _ rfl)))))<|RG.y rfl rfl (Y.move (v:=.slice (some ⟨b344,o345,none⟩) d2.length ca2) s2) ?_
   obtain ⟨x355,hx358,hm⟩:=bnd hm
   obtain ⟨k356,hk359,hl360,hx358⟩:=getI_some hx358
   obtain ⟨cs357,hRcs357,hc361⟩:=ha2.el hx358
   have hScs357:=hRcs357
   obtain ⟨A362,n362,c362,rfl,⟨h362,r362⟩⟩:=(typeRd_out hRcs357)
   have e362:=h362.len; subst e362
   have q362:=len_le r362
   refine RG.y rfl rfl (Y.indexAddr (m:=k356) (sz:=3) rfl rfl hk359 hl360 (by kernel_rfl))<|RG.y rfl rfl (Y.loadN (cs:=[.int .i64 x355.kind,.string x355.name,.slice A362 x355.kids.length c362]) rfl (by kernel_rfl) (cells3 (fun w' hS=>(cellT hS (hc361 0 _ rfl))) (fun w' hS=>(cellT hS (hc361 1 _ rfl))) (fun w' hS=>(cellT hS (hc361 2 _ rfl)))))<|RG.act rfl ?_
   obtain ⟨y363,e364,hm⟩:=bnd hm
   refine RL.call rfl (am2 rfl rfl) (by kernel_rfl) ((c_l02M x347 x355 _ e364 _ _ _ (stArg (R:=typeRd) (typeRd_in ⟨_,_,_,rfl,⟨SlAt.now typeRd_ok h354 (Nat.le_refl _) T,r354⟩⟩)) (stArg (R:=typeRd) (typeRd_in ⟨_,_,_,rfl,⟨SlAt.now typeRd_ok h362 (Nat.le_refl _) T,r362⟩⟩))).mono ?_)
   rintro _ w367 ⟨⟨v365,rfl,hv366⟩,hb368⟩
   refine ⟨_,rfl,?_⟩
   have szw367:=hb368.size
   have T:=Tt T hb368
   obtain ⟨cs370,rfl,hR371⟩:=hv366
   obtain ⟨A372,n372,c372,rfl,⟨h372,r372⟩⟩:=(typeRd_out hR371)
   have e372:=h372.len; subst e372
   have q372:=len_le r372
   have U369:=Below.refl w367.heap.size w367
   refine RL.nil ⟨T,?_⟩
   refine RG.act rfl ?_
   obtain ⟨y373,e374,hm⟩:=bnd hm
   refine RL.call rfl (am2 rfl rfl) (by kernel_rfl) ((c_m_spec_SameType (SizeOf.sizeOf x337) x337 y363 _ e374 _ _ _ (stArg (R:=typeRd) (typeRd_in ⟨_,_,_,rfl,⟨SlAt.now typeRd_ok h346 (Nat.le_refl _) T,r346⟩⟩)) (stArg (R:=typeRd) (typeRd_in ⟨_,_,_,rfl,⟨SlAt.now typeRd_ok h372 (Nat.le_refl _) U369,r372⟩⟩))).mono ?_)
   rintro _ w375 ⟨rfl,hb376⟩
   refine ⟨_,rfl,?_⟩
   have szw375:=hb376.size
   try have U369:=Tt U369 hb376
   have T:=Tt T hb376
   refine RL.nil ⟨T,?_⟩
   refine RG.y rfl rfl (Y.assign (v:=.bool y373) rfl)<|RG.nil<|then_n<|wp_ret ?_
   obtain rfl:=sj hm
   exact (blk_r (then_r (ret1 rfl rfl rfl ⟨rfl,T⟩)))
  replace hm:=cT c5 hm
  refine cond_t rfl (vb rfl c5)<|wp_skip<|then_n<|cond_t rfl (vb rfl c5)<|wp_seq ?_
  refine wp_rg (fun w'=>Below w.heap.size w w') [(0,true),(1,true),(2,true),(3,true),(4,true),(5,true),(6,true),(7,true),(8,true),(9,false),(10,false),(11,true)] (by kernel_rfl) (by kernel_rfl) (fun w377 hb378 szw377=>?_)
  have T:=Tt T hb378
  refine ⟨T,?_⟩
  refine RG.y rfl rfl (Y.move (v:=.slice Aa2 d2.length ca2) s2) ?_
  obtain ⟨x379,hx382,hm⟩:=bnd hm
  obtain ⟨k380,hk383,hl384,hx382⟩:=getI_some hx382
  obtain ⟨b386,o387,rfl,hbb386⟩:=ha2.addr (by omega)
  obtain ⟨cs381,hRcs381,hc385⟩:=ha2.el hx382
  have hScs381:=hRcs381
  obtain ⟨A388,n388,c388,rfl,⟨h388,r388⟩⟩:=(typeRd_out hRcs381)
  have e388:=h388.len; subst e388
  have q388:=len_le r388
  refine RG.y rfl rfl (Y.indexAddr (m:=k380) (sz:=3) rfl rfl hk383 hl384 (by kernel_rfl))<|RG.y rfl rfl (Y.loadN (cs:=[.int .i64 x379.kind,.string x379.name,.slice A388 x379.kids.length c388]) rfl (by kernel_rfl) (cells3 (fun w' hS=>(cellT hS (hc385 0 _ rfl))) (fun w' hS=>(cellT hS (hc385 1 _ rfl))) (fun w' hS=>(cellT hS (hc385 2 _ rfl)))))<|RG.y rfl rfl (Y.move (v:=.slice (some ⟨b386,o387,none⟩) d2.length ca2) s2) ?_
  obtain ⟨x389,hx392,hm⟩:=bnd hm
  obtain ⟨k390,hk393,hl394,hx392⟩:=getI_some hx392
  obtain ⟨cs391,hRcs391,hc395⟩:=ha2.el hx392
  have hScs391:=hRcs391
  obtain ⟨A396,n396,c396,rfl,⟨h396,r396⟩⟩:=(typeRd_out hRcs391)
  have e396:=h396.len; subst e396
  have q396:=len_le r396
  refine RG.y rfl rfl (Y.indexAddr (m:=k390) (sz:=3) rfl rfl hk393 hl394 (by kernel_rfl))<|RG.y rfl rfl (Y.loadN (cs:=[.int .i64 x389.kind,.string x389.name,.slice A396 x389.kids.length c396]) rfl (by kernel_rfl) (cells3 (fun w' hS=>(cellT hS (hc395 0 _ rfl))) (fun w' hS=>(cellT hS (hc395 1 _ rfl))) (fun w' hS=>(cellT hS (hc395 2 _ rfl)))))<|RG.y rfl rfl (Y.move (v:=.slice (some ⟨b386,o387,none⟩) d2.length ca2) s2) ?_
  obtain ⟨x397,hx400,hm⟩:=bnd hm
  obtain ⟨k398,hk401,hl402,hx400⟩:=getI_some hx400
  obtain ⟨cs399,hRcs399,hc403⟩:=ha2.el hx400
  have hScs399:=hRcs399
  obtain ⟨A404,n404,c404,rfl,⟨h404,r404⟩⟩:=(typeRd_out hRcs399)
  have e404:=h404.len; subst e404
  have q404:=len_le r404
  refine RG.y rfl rfl (Y.indexAddr (m:=k398) (sz:=3) rfl rfl hk401 hl402 (by kernel_rfl))<|RG.y rfl rfl (Y.loadN (cs:=[.int .i64 x397.kind,.string x397.name,.slice A404 x397.kids.length c404]) rfl (by kernel_rfl) (cells3 (fun w' hS=>(cellT hS (hc403 0 _ rfl))) (fun w' hS=>(cellT hS (hc403 1 _ rfl))) (fun w' hS=>(cellT hS (hc403 2 _ rfl)))))<|RG.act rfl ?_
  obtain ⟨y405,e406,hm⟩:=bnd hm
  refine RL.call rfl (am2 rfl rfl) (by kernel_rfl) ((c_l02M x389 x397 _ e406 _ _ _ (stArg (R:=typeRd) (typeRd_in ⟨_,_,_,rfl,⟨SlAt.now typeRd_ok h396 (Nat.le_refl _) T,r396⟩⟩)) (stArg (R:=typeRd) (typeRd_in ⟨_,_,_,rfl,⟨SlAt.now typeRd_ok h404 (Nat.le_refl _) T,r404⟩⟩))).mono ?_)
  rintro _ w409 ⟨⟨v407,rfl,hv408⟩,hb410⟩
  refine ⟨_,rfl,?_⟩
  have szw409:=hb410.size
  have T:=Tt T hb410
  obtain ⟨cs412,rfl,hR413⟩:=hv408
  obtain ⟨A414,n414,c414,rfl,⟨h414,r414⟩⟩:=(typeRd_out hR413)
  have e414:=h414.len; subst e414
  have q414:=len_le r414
  have U411:=Below.refl w409.heap.size w409
  refine RL.nil ⟨T,?_⟩
  refine RG.act rfl ?_
  obtain ⟨y415,e416,hm⟩:=bnd hm
  refine RL.call rfl (am2 rfl rfl) (by kernel_rfl) ((c_m_spec_SameType (SizeOf.sizeOf x379) x379 y405 _ e416 _ _ _ (stArg (R:=typeRd) (typeRd_in ⟨_,_,_,rfl,⟨SlAt.now typeRd_ok h388 (Nat.le_refl _) T,r388⟩⟩)) (stArg (R:=typeRd) (typeRd_in ⟨_,_,_,rfl,⟨SlAt.now typeRd_ok h414 (Nat.le_refl _) U411,r414⟩⟩))).mono ?_)
  rintro _ w417 ⟨rfl,hb418⟩
  refine ⟨_,rfl,?_⟩
  have szw417:=hb418.size
  try have U411:=Tt U411 hb418
  have T:=Tt T hb418
  refine RL.nil ⟨T,?_⟩
  refine RG.y rfl rfl (Y.assign (v:=.bool y415) rfl)<|RG.nil<|then_n<|wp_ret ?_
  obtain rfl:=sj hm
  exact (blk_r (then_r (ret1 rfl rfl rfl ⟨rfl,T⟩)))
noncomputable def m_spec_l20Shape_A1:Option Bool:=
  some true
noncomputable def m_spec_l20Shape_B1 (d0:DTypedNet) (rec1:Int→Option Bool) (K1:Option Bool) (i12:Int):Option Bool:=
  (bif (decide (i12 < (d0.types.length:Int))) then ((getI d0.types i12).bind fun x15=>((getI d0.net.agents i12).bind fun x25=>(bif ((x15.length:Int) != (x25.ports.length:Int)) then some false else (rec1 (i12+1))))) else (K1))
noncomputable def m_spec_l20Shape_L1 (d0:DTypedNet) (K1:Option Bool):Nat→Int→Option Bool
  |0,_=>none
  |g+1,i12=>m_spec_l20Shape_B1 d0 (m_spec_l20Shape_L1 d0 K1 g) K1 i12
noncomputable def m_spec_l20Shape (d0:DTypedNet):Option Bool:=
  ((m_spec_l11Ok d0.net).bind fun y3=>(bif y3 then (bif ((d0.types.length:Int) != (d0.net.agents.length:Int)) then some false else (m_spec_l20Shape_L1 d0 m_spec_l20Shape_A1 (d0.types.length+1) 0)) else some false))
set_option maxHeartbeats 2000000 in
theorem c_m_spec_l20Shape (d0:DTypedNet) (r:Bool) (hm:m_spec_l20Shape d0=some r) (v0:Value) (w:World) (hv0:Pt typedNetRd w v0 d0) :
    Calls Tryz.prog 84 #[v0] w fun e w'=>e=.returned (.bool r)∧Below w.heap.size w w':=by
  obtain ⟨ba0,oa0,csa0,rfl,hba0,hRa0,hca0⟩:=hv0
  have hSa0:=hRa0
  obtain ⟨A1,n1,c1,A2,n2,c2,rfl,⟨h1,r1⟩,⟨h2,r2⟩⟩:=hRa0
  have e1:=h1.len; subst e1
  have q1:=len_le r1
  have e2:=h2.len; subst e2
  have q2:=len_le r2
  have T:=Below.refl w.heap.size w
  unfold m_spec_l20Shape at hm
  refine enter 51 Tryz.func84 rfl rfl rfl ?_
  intro f hf
  have s0:f 0=.pointer (some ⟨ba0,oa0,none⟩):=hf 0 _ rfl
  refine wp_seq<|wp_rs rfl<|RQ.y rfl (Y.assign (v:=.bool false) rfl)<|RQ.nil<|then_n<|wp_seq<|wp_seq<|wp_rbd (by kernel_rfl) (by kernel_rfl)<|RQ.y rfl (Y.move (v:=.pointer (some ⟨ba0,oa0,none⟩)) s0)<|RQ.y rfl (Y.nilCheck rfl)<|RQ.y rfl (Y.fieldAddr (off:=0) rfl (by kernel_rfl)) ?_
  obtain ⟨y3,e4,hm⟩:=bnd hm
  refine RQ.call rfl (am1 rfl) (by kernel_rfl) (v:=.bool y3) (bel (K:=fun _=>True) fun w' hb'=>(c_m_spec_l11Ok d0.net _ e4 _ w' (ptSub (R:=netRd) netRd_ok hba0 (pre:=[]) (cs:=[.slice A1 d0.net.agents.length c1]) (post:=[.slice A2 d0.types.length c2]) ⟨_,_,_,rfl,⟨h1,r1⟩⟩ hca0 (Tt T hb'))))<|RQ.y rfl (Y.not (b':=(!y3)) rfl rfl)<|RQ.y rfl (Y.move (v:=.bool (!y3)) rfl) ?_
  rcases bcases y3 with c5|c5
  ·replace hm:=cF c5 hm
   iterate 12 refine RQ.skip (wantN (dj:=9) rfl (vbn rfl c5 rfl) rfl) ?_
   refine RQ.y rfl (Y.pick (b:=true) (v:=.bool true) (vbn rfl c5 rfl) rfl)<|RQ.nil ?_
   intro w6 hb7
   have szw6:=hb7.size
   have T:=Tt T hb7
   refine then_n<|cond_t rfl rfl<|wp_seq<|wp_rs rfl<|RQ.y rfl (Y.assign (v:=.bool false) rfl)<|RQ.nil<|then_n<|wp_ret ?_
   obtain rfl:=sj hm
   exact (then_r (ret1 rfl rfl rfl ⟨rfl,T⟩))
  replace hm:=cT c5 hm
  refine RQ.y (wantT (dj:=9) rfl (vbn rfl c5 rfl)) (Y.move (v:=.pointer (some ⟨ba0,oa0,none⟩)) s0)<|RQ.y (wantT (dj:=9) rfl (vbn rfl c5 rfl)) (Y.nilCheck rfl)<|RQ.y (wantT (dj:=9) rfl (vbn rfl c5 rfl)) (Y.fieldAddr (off:=1) rfl (by kernel_rfl))<|RQ.y (wantT (dj:=9) rfl (vbn rfl c5 rfl)) (Y.load (v:=.slice A2 d0.types.length c2) rfl (by kernel_rfl) (beC (cellT T (hca0 1 _ rfl))))<|RQ.y (wantT (dj:=9) rfl (vbn rfl c5 rfl)) (Y.len (by kernel_rfl) rfl)<|RQ.y (wantT (dj:=9) rfl (vbn rfl c5 rfl)) (Y.move (v:=.pointer (some ⟨ba0,oa0,none⟩)) s0)<|RQ.y (wantT (dj:=9) rfl (vbn rfl c5 rfl)) (Y.nilCheck rfl)<|RQ.y (wantT (dj:=9) rfl (vbn rfl c5 rfl)) (Y.fieldAddr (off:=0) rfl (by kernel_rfl))<|RQ.y (wantT (dj:=9) rfl (vbn rfl c5 rfl)) (Y.fieldAddr (off:=0) rfl (by kernel_rfl))<|RQ.y (wantT (dj:=9) rfl (vbn rfl c5 rfl)) (Y.load (v:=.slice A1 d0.net.agents.length c1) rfl (by kernel_rfl) (beC (cellT T (hca0 0 _ rfl))))<|RQ.y (wantT (dj:=9) rfl (vbn rfl c5 rfl)) (Y.len (by kernel_rfl) rfl)<|RQ.y (wantT (dj:=9) rfl (vbn rfl c5 rfl)) (Y.binI (v:=.bool ((d0.types.length:Int) != (d0.net.agents.length:Int))) rfl rfl rfl)<|RQ.y rfl (Y.pick (b:=false) (v:=.bool ((d0.types.length:Int) != (d0.net.agents.length:Int))) (vbn rfl c5 rfl) rfl)<|RQ.nil ?_
  intro w8 hb9
  have szw8:=hb9.size
  have T:=Tt T hb9
  refine then_n ?_
  rcases bcases ((d0.types.length:Int) != (d0.net.agents.length:Int)) with c10|c10
  ·replace hm:=cF c10 hm
   refine cond_f rfl (vb rfl c10)<|wp_skip<|then_n<|wp_seq<|wp_seq<|wp_rs rfl<|RQ.y rfl (Y.assign (v:=.int .i64 0) rfl)<|RQ.nil<|then_n<|wp_block ?_
   obtain ⟨K1,hK1,hm⟩ :∃K,K=m_spec_l20Shape_A1∧m_spec_l20Shape_L1 d0 K (d0.types.length+1) 0=some r:=⟨_,rfl,hm⟩
   refine wp_loopX (fun g f w'=>∃(i12:Int),f 0=.pointer (some ⟨ba0,oa0,none⟩)∧f 3=.int .i64 i12∧0≤i12∧Below w.heap.size w w'∧m_spec_l20Shape_L1 d0 K1 g i12=some r) 0 (fun f w'=>Below w.heap.size w w'∧m_spec_l20Shape_A1  = some r) (d0.types.length+1) ⟨0,s0,rfl,(by omega),T,hm⟩ ?_ ?_
   ·rintro f w11 ⟨T,hm⟩
    unfold m_spec_l20Shape_A1 at hm
    refine blk_hit (then_n ?_)
    refine wp_seq<|wp_rs rfl<|RQ.y rfl (Y.assign (v:=.bool true) rfl)<|RQ.nil<|then_n<|wp_ret ?_
    obtain rfl:=sj hm
    exact (ret1 rfl rfl rfl ⟨rfl,T⟩)
   rintro g f w13 ⟨i12,s0_1,s3_1,nn3_1,T,hm⟩
   rcases g with _|g
   ·simp only [m_spec_l20Shape_L1] at hm; cases hm
   obtain ⟨rec1,hrec1,hm⟩ :∃z,z=m_spec_l20Shape_L1 d0 K1 g∧m_spec_l20Shape_B1 d0 z K1 i12=some r:=⟨_,rfl,hm⟩
   unfold m_spec_l20Shape_B1 at hm
   refine wp_seq<|wp_seq<|wp_rs rfl<|RQ.y rfl (Y.move (v:=.int .i64 i12) s3_1)<|RQ.y rfl (Y.move (v:=.pointer (some ⟨ba0,oa0,none⟩)) s0_1)<|RQ.y rfl (Y.nilCheck rfl)<|RQ.y rfl (Y.fieldAddr (off:=1) rfl (by kernel_rfl))<|RQ.y rfl (Y.load (v:=.slice A2 d0.types.length c2) rfl (by kernel_rfl) (eqC (cellT T (hca0 1 _ rfl))))<|RQ.y rfl (Y.len (by kernel_rfl) rfl)<|RQ.y rfl (Y.binI (v:=.bool (decide (i12 < (d0.types.length:Int)))) rfl rfl rfl)<|RQ.nil<|then_n ?_
   rcases bcases (decide (i12 < (d0.types.length:Int))) with c14|c14
   ·replace hm:=cF c14 hm
    have pc14:=of_decide_eq_false c14
    refine cond_f rfl (vb rfl c14)<|wp_exit ?_
    exact (then_x (then_x (hit_x ⟨_,rfl,⟨T,(by rw [hK1] at hm; exact hm)⟩⟩)))
   replace hm:=cT c14 hm
   have pc14:=of_decide_eq_true c14
   refine cond_t rfl (vb rfl c14)<|wp_skip<|then_n<|wp_seq<|wp_block<|wp_seq<|wp_rbd (by kernel_rfl) (by kernel_rfl)<|RQ.y rfl (Y.move (v:=.pointer (some ⟨ba0,oa0,none⟩)) s0_1)<|RQ.y rfl (Y.nilCheck rfl)<|RQ.y rfl (Y.fieldAddr (off:=1) rfl (by kernel_rfl))<|RQ.y rfl (Y.load (v:=.slice A2 d0.types.length c2) rfl (by kernel_rfl) (beC (cellT T (hca0 1 _ rfl))))<|RQ.y rfl (Y.move (v:=.int .i64 i12) s3_1) ?_
   obtain ⟨x15,hx18,hm⟩:=bnd hm
   obtain ⟨k16,hk19,hl20,hx18⟩:=getI_some hx18
   obtain ⟨b22,o23,rfl,hbb22⟩:=h2.addr (by omega)
   obtain ⟨cs17,hRcs17,hc21⟩:=h2.el hx18
   have hScs17:=hRcs17
   obtain ⟨A24,n24,c24,rfl,h24,r24⟩:=hRcs17
   have e24:=h24.len; subst e24
   have q24:=len_le r24
   refine RQ.y rfl (Y.indexAddr (m:=k16) (sz:=1) rfl rfl hk19 hl20 (by kernel_rfl))<|RQ.y rfl (Y.load (v:=.slice A24 x15.length c24) rfl (by kernel_rfl) (beC (cellT T (hc21 0 _ rfl))))<|RQ.y rfl (Y.len (by kernel_rfl) rfl)<|RQ.y rfl (Y.move (v:=.pointer (some ⟨ba0,oa0,none⟩)) s0_1)<|RQ.y rfl (Y.nilCheck rfl)<|RQ.y rfl (Y.fieldAddr (off:=0) rfl (by kernel_rfl))<|RQ.y rfl (Y.fieldAddr (off:=0) rfl (by kernel_rfl))<|RQ.y rfl (Y.load (v:=.slice A1 d0.net.agents.length c1) rfl (by kernel_rfl) (beC (cellT T (hca0 0 _ rfl))))<|RQ.y rfl (Y.move (v:=.int .i64 i12) s3_1) ?_
   obtain ⟨x25,hx28,hm⟩:=bnd hm
   obtain ⟨k26,hk29,hl30,hx28⟩:=getI_some hx28
   obtain ⟨b32,o33,rfl,hbb32⟩:=h1.addr (by omega)
   obtain ⟨cs27,hRcs27,hc31⟩:=h1.el hx28
   have hScs27:=hRcs27
   obtain ⟨A34,n34,c34,A35,n35,c35,rfl,⟨h34,r34⟩,⟨h35,r35⟩⟩:=hRcs27
   have e34:=h34.len; subst e34
   have q34:=len_le r34
   have e35:=h35.len; subst e35
   have q35:=len_le r35
   refine RQ.y rfl (Y.indexAddr (m:=k26) (sz:=5) rfl rfl hk29 hl30 (by kernel_rfl))<|RQ.y rfl (Y.fieldAddr (off:=4) rfl (by kernel_rfl))<|RQ.y rfl (Y.load (v:=.slice A35 x25.ports.length c35) rfl (by kernel_rfl) (beC (cellT T (hc31 4 _ rfl))))<|RQ.y rfl (Y.len (by kernel_rfl) rfl)<|RQ.y rfl (Y.binI (v:=.bool ((x15.length:Int) != (x25.ports.length:Int))) rfl rfl rfl)<|RQ.nil ?_
   intro w36 hb37
   have szw36:=hb37.size
   have T:=Tt T hb37
   refine then_n ?_
   rcases bcases ((x15.length:Int) != (x25.ports.length:Int)) with c38|c38
   ·replace hm:=cF c38 hm
    refine cond_f rfl (vb rfl c38)<|wp_skip ?_
    refine blk_n (then_n ?_)
    refine wp_rs rfl<|RQ.y rfl (Y.move (v:=.int .i64 i12) s3_1)<|RQ.y rfl (Y.binI rfl rfl (binI_add (m:=i12) (by omega)))<|RQ.y rfl (Y.assign (v:=.int .i64 (i12+1)) rfl)<|RQ.nil ?_
    exact (then_n ⟨g,_,Nat.lt_succ_self _,rfl,⟨(i12+1),s0_1,rfl,(by omega),T,(by rw [← hrec1]; exact hm)⟩⟩)
   replace hm:=cT c38 hm
   refine cond_t rfl (vb rfl c38)<|wp_seq<|wp_rs rfl<|RQ.y rfl (Y.assign (v:=.bool false) rfl)<|RQ.nil<|then_n<|wp_ret ?_
   obtain rfl:=sj hm
   exact (blk_r (then_r (then_r (hit_r (blk_r (then_r (ret1 rfl rfl rfl ⟨rfl,T⟩)))))))
  replace hm:=cT c10 hm
  refine cond_t rfl (vb rfl c10)<|wp_seq<|wp_rs rfl<|RQ.y rfl (Y.assign (v:=.bool false) rfl)<|RQ.nil<|then_n<|wp_ret ?_
  obtain rfl:=sj hm
  exact (then_r (ret1 rfl rfl rfl ⟨rfl,T⟩))
noncomputable def m_spec_l20Check_A1:Option Int:=
  some 0
noncomputable def m_spec_l20Check_A2 (d0:DSignature) (d1:DTypedNet) (rec1:Int→Option Int) (i16:Int) (x19:DAgent):Option Int:=
  ((getI d1.types i16).bind fun x31=>((m_spec_l20Fits d0 x19 x31).bind fun y41=>(bif y41 then ((ck (i16+1)).bind fun s46=>(rec1 s46)) else some 8)))
noncomputable def m_spec_l20Check_B2 (d0:DSignature) (d1:DTypedNet) (i16:Int) (x19:DAgent) (rec2:Int→Option Int) (K2:Option Int) (i47:Int):Option Int:=
  ((getI d1.types i16).bind fun x49=>(bif (decide (i47 < (x49.length:Int))) then ((getI x19.ports i47).bind fun x60=>((getI d1.types i16).bind fun x76=>((getI x76 i47).bind fun x84=>((m_spec_l20Simple (SizeOf.sizeOf x84) d0.datas x84).bind fun y94=>(bif y94 then ((getI d1.types i16).bind fun x99=>((getI x99 i47).bind fun x107=>((getI d1.types x60.agent).bind fun x117=>((getI x117 x60.slot).bind fun x125=>((m_spec_SameType (SizeOf.sizeOf x107) x107 x125).bind fun y135=>(bif y135 then (rec2 (i47+1)) else some 8)))))) else some 8))))) else (K2)))
noncomputable def m_spec_l20Check_L2 (d0:DSignature) (d1:DTypedNet) (i16:Int) (x19:DAgent) (K2:Option Int):Nat→Int→Option Int
  |0,_=>none
  |g+1,i47=>m_spec_l20Check_B2 d0 d1 i16 x19 (m_spec_l20Check_L2 d0 d1 i16 x19 K2 g) K2 i47
noncomputable def m_spec_l20Check_B1 (d0:DSignature) (d1:DTypedNet) (rec1:Int→Option Int) (K1:Option Int) (i16:Int):Option Int:=
  (bif (decide (i16 < (d1.types.length:Int))) then ((getI d1.net.agents i16).bind fun x19=>(m_spec_l20Check_L2 d0 d1 i16 x19 (m_spec_l20Check_A2 d0 d1 rec1 i16 x19) (((getI d1.types i16).getD default).length+1) 0)) else (K1))
noncomputable def m_spec_l20Check_L1 (d0:DSignature) (d1:DTypedNet) (K1:Option Int):Nat→Int→Option Int
  |0,_=>none
  |g+1,i16=>m_spec_l20Check_B1 d0 d1 (m_spec_l20Check_L1 d0 d1 K1 g) K1 i16
noncomputable def m_spec_l20Check (d0:DSignature) (d1:DTypedNet):Option Int:=
  ((m_spec_l20Signature d0).bind fun y5=>(bif y5 then ((m_spec_l20Shape d1).bind fun y10=>(bif y10 then (m_spec_l20Check_L1 d0 d1 m_spec_l20Check_A1 (d1.types.length+1) 0) else some 1)) else some 1))
set_option maxHeartbeats 2000000 in
theorem c_m_spec_l20Check (d0:DSignature) (d1:DTypedNet) (r:Int) (hm:m_spec_l20Check d0 d1=some r) (v0:Value) (v1:Value) (w:World) (hv0:Pt signatureRd w v0 d0) (hv1:Pt typedNetRd w v1 d1) :
    Calls Tryz.prog 40 #[v0,v1] w fun e w'=>e=.returned (.int .i64 r)∧Below w.heap.size w w':=by
  obtain ⟨ba0,oa0,csa0,rfl,hba0,hRa0,hca0⟩:=hv0
  have hSa0:=hRa0
  obtain ⟨A1,n1,c1,A2,n2,c2,rfl,⟨h1,r1⟩,⟨h2,r2⟩⟩:=hRa0
  have e1:=h1.len; subst e1
  have q1:=len_le r1
  have e2:=h2.len; subst e2
  have q2:=len_le r2
  obtain ⟨ba1,oa1,csa1,rfl,hba1,hRa1,hca1⟩:=hv1
  have hSa1:=hRa1
  obtain ⟨A3,n3,c3,A4,n4,c4,rfl,⟨h3,r3⟩,⟨h4,r4⟩⟩:=hRa1
  have e3:=h3.len; subst e3
  have q3:=len_le r3
  have e4:=h4.len; subst e4
  have q4:=len_le r4
  have T:=Below.refl w.heap.size w
  unfold m_spec_l20Check at hm
  refine enter 104 Tryz.func40 rfl rfl rfl ?_
  intro f hf
  have s0:f 0=.pointer (some ⟨ba0,oa0,none⟩):=hf 0 _ rfl
  have s1:f 1=.pointer (some ⟨ba1,oa1,none⟩):=hf 1 _ rfl
  refine wp_seq<|wp_rs rfl<|RQ.y rfl (Y.assign (v:=.int .i64 0) rfl)<|RQ.nil<|then_n<|wp_seq<|wp_seq<|wp_rb rfl<|RQ.y rfl (Y.move (v:=.pointer (some ⟨ba0,oa0,none⟩)) s0) ?_
  obtain ⟨y5,e6,hm⟩:=bnd hm
  refine RQ.call rfl (am1 rfl) (by kernel_rfl) (v:=.bool y5) (bel (K:=fun _=>True) fun w' hb'=>(c_m_spec_l20Signature d0 _ e6 _ w' (ptArg signatureRd_ok hba0 hSa0 hca0 (Tt T hb'))))<|RQ.y rfl (Y.not (b':=(!y5)) rfl rfl)<|RQ.y rfl (Y.move (v:=.bool (!y5)) rfl) ?_
  rcases bcases y5 with c7|c7
  ·replace hm:=cF c7 hm
   iterate 3 refine RQ.skip (wantN (dj:=12) rfl (vbn rfl c7 rfl) rfl) ?_
   refine RQ.y rfl (Y.pick (b:=true) (v:=.bool true) (vbn rfl c7 rfl) rfl)<|RQ.nil ?_
   intro w8 hb9
   have szw8:=hb9.size
   have T:=Tt T hb9
   refine then_n<|cond_t rfl rfl<|wp_seq<|wp_rs rfl<|RQ.y rfl (Y.assign (v:=.int .i64 1) rfl)<|RQ.nil<|then_n<|wp_ret ?_
   obtain rfl:=sj hm
   exact (then_r (ret1 rfl rfl rfl ⟨rfl,T⟩))
  replace hm:=cT c7 hm
  refine RQ.y (wantT (dj:=12) rfl (vbn rfl c7 rfl)) (Y.move (v:=.pointer (some ⟨ba1,oa1,none⟩)) s1) ?_
  obtain ⟨y10,e11,hm⟩:=bnd hm
  refine RQ.call (wantT (dj:=12) rfl (vbn rfl c7 rfl)) (am1 rfl) (by kernel_rfl) (v:=.bool y10) (bel (K:=fun _=>True) fun w' hb'=>(c_m_spec_l20Shape d1 _ e11 _ w' (ptArg typedNetRd_ok hba1 hSa1 hca1 (Tt T hb'))))<|RQ.y (wantT (dj:=12) rfl (vbn rfl c7 rfl)) (Y.not (b':=(!y10)) rfl rfl)<|RQ.y rfl (Y.pick (b:=false) (v:=.bool (!y10)) (vbn rfl c7 rfl) rfl)<|RQ.nil ?_
  intro w12 hb13
  have szw12:=hb13.size
  have T:=Tt T hb13
  refine then_n ?_
  rcases bcases y10 with c14|c14
  ·replace hm:=cF c14 hm
   refine cond_t rfl (vbn rfl c14 rfl)<|wp_seq<|wp_rs rfl<|RQ.y rfl (Y.assign (v:=.int .i64 1) rfl)<|RQ.nil<|then_n<|wp_ret ?_
   obtain rfl:=sj hm
   exact (then_r (ret1 rfl rfl rfl ⟨rfl,T⟩))
  replace hm:=cT c14 hm
  refine cond_f rfl (vbn rfl c14 rfl)<|wp_skip<|then_n<|wp_seq<|wp_seq<|wp_rs rfl<|RQ.y rfl (Y.assign (v:=.int .i64 0) rfl)<|RQ.nil<|then_n<|wp_block ?_
  obtain ⟨K1,hK1,hm⟩ :∃K,K=m_spec_l20Check_A1∧m_spec_l20Check_L1 d0 d1 K (d1.types.length+1) 0=some r:=⟨_,rfl,hm⟩
  refine wp_loopX (fun g f w'=>∃(i16:Int),f 0=.pointer (some ⟨ba0,oa0,none⟩)∧f 1=.pointer (some ⟨ba1,oa1,none⟩)∧f 5=.int .i64 i16∧0≤i16∧Below w.heap.size w w'∧m_spec_l20Check_L1 d0 d1 K1 g i16=some r) 0 (fun f w'=>Below w.heap.size w w'∧m_spec_l20Check_A1  = some r) (d1.types.length+1) ⟨0,s0,s1,rfl,(by omega),T,hm⟩ ?_ ?_
  ·rintro f w15 ⟨T,hm⟩
   unfold m_spec_l20Check_A1 at hm
   refine blk_hit (then_n ?_)
   refine wp_seq<|wp_rs rfl<|RQ.y rfl (Y.assign (v:=.int .i64 0) rfl)<|RQ.nil<|then_n<|wp_ret ?_
   obtain rfl:=sj hm
   exact (ret1 rfl rfl rfl ⟨rfl,T⟩)
  rintro g f w17 ⟨i16,s0_1,s1_1,s5_1,nn5_1,T,hm⟩
  rcases g with _|g
  ·simp only [m_spec_l20Check_L1] at hm; cases hm
  obtain ⟨rec1,hrec1,hm⟩ :∃z,z=m_spec_l20Check_L1 d0 d1 K1 g∧m_spec_l20Check_B1 d0 d1 z K1 i16=some r:=⟨_,rfl,hm⟩
  unfold m_spec_l20Check_B1 at hm
  refine wp_seq<|wp_seq<|wp_rs rfl<|RQ.y rfl (Y.move (v:=.int .i64 i16) s5_1)<|RQ.y rfl (Y.move (v:=.pointer (some ⟨ba1,oa1,none⟩)) s1_1)<|RQ.y rfl (Y.nilCheck rfl)<|RQ.y rfl (Y.fieldAddr (off:=1) rfl (by kernel_rfl))<|RQ.y rfl (Y.load (v:=.slice A4 d1.types.length c4) rfl (by kernel_rfl) (eqC (cellT T (hca1 1 _ rfl))))<|RQ.y rfl (Y.len (by kernel_rfl) rfl)<|RQ.y rfl (Y.binI (v:=.bool (decide (i16 < (d1.types.length:Int)))) rfl rfl rfl)<|RQ.nil<|then_n ?_
  rcases bcases (decide (i16 < (d1.types.length:Int))) with c18|c18
  ·replace hm:=cF c18 hm
   have pc18:=of_decide_eq_false c18
   refine cond_f rfl (vb rfl c18)<|wp_exit ?_
   exact (then_x (then_x (hit_x ⟨_,rfl,⟨T,(by rw [hK1] at hm; exact hm)⟩⟩)))
  replace hm:=cT c18 hm
  have pc18:=of_decide_eq_true c18
  refine cond_t rfl (vb rfl c18)<|wp_skip<|then_n<|wp_seq<|wp_block<|wp_seq<|wp_rs rfl<|RQ.y rfl (Y.move (v:=.pointer (some ⟨ba1,oa1,none⟩)) s1_1)<|RQ.y rfl (Y.nilCheck rfl)<|RQ.y rfl (Y.fieldAddr (off:=0) rfl (by kernel_rfl))<|RQ.y rfl (Y.fieldAddr (off:=0) rfl (by kernel_rfl))<|RQ.y rfl (Y.load (v:=.slice A3 d1.net.agents.length c3) rfl (by kernel_rfl) (eqC (cellT T (hca1 0 _ rfl))))<|RQ.y rfl (Y.move (v:=.int .i64 i16) s5_1) ?_
  obtain ⟨x19,hx22,hm⟩:=bnd hm
  obtain ⟨k20,hk23,hl24,hx22⟩:=getI_some hx22
  obtain ⟨b26,o27,rfl,hbb26⟩:=h3.addr (by omega)
  obtain ⟨cs21,hRcs21,hc25⟩:=h3.el hx22
  have hScs21:=hRcs21
  obtain ⟨A28,n28,c28,A29,n29,c29,rfl,⟨h28,r28⟩,⟨h29,r29⟩⟩:=hRcs21
  have e28:=h28.len; subst e28
  have q28:=len_le r28
  have e29:=h29.len; subst e29
  have q29:=len_le r29
  refine RQ.y rfl (Y.indexAddr (m:=k20) (sz:=5) rfl rfl hk23 hl24 (by kernel_rfl))<|RQ.y rfl (Y.assign (v:=.pointer (some ⟨b26,o27+k20 * 5,none⟩)) rfl)<|RQ.nil<|then_n<|wp_seq<|wp_seq<|wp_rs rfl<|RQ.y rfl (Y.assign (v:=.int .i64 0) rfl)<|RQ.nil<|then_n<|wp_block ?_
  obtain ⟨K2,hK2,hm⟩ :∃K,K=(m_spec_l20Check_A2 d0 d1 rec1 i16 x19)∧m_spec_l20Check_L2 d0 d1 i16 x19 K (((getI d1.types i16).getD default).length+1) 0=some r:=⟨_,rfl,hm⟩
  refine wp_loopX (fun g f w'=>∃(i47:Int),f 0=.pointer (some ⟨ba0,oa0,none⟩)∧f 1=.pointer (some ⟨ba1,oa1,none⟩)∧f 5=.int .i64 i16∧f 6=.pointer (some ⟨b26,o27+k20 * 5,none⟩)∧f 7=.int .i64 i47∧0≤i47∧Below w.heap.size w w'∧m_spec_l20Check_L2 d0 d1 i16 x19 K2 g i47=some r) 2 (fun f w'=>f 0=.pointer (some ⟨ba0,oa0,none⟩)∧f 1=.pointer (some ⟨ba1,oa1,none⟩)∧f 5=.int .i64 i16∧f 6=.pointer (some ⟨b26,o27+k20 * 5,none⟩)∧Below w.heap.size w w'∧m_spec_l20Check_A2 d0 d1 rec1 i16 x19  = some r) (((getI d1.types i16).getD default).length+1) ⟨0,s0_1,s1_1,s5_1,rfl,rfl,(by omega),T,hm⟩ ?_ ?_
  ·rintro f w30 ⟨s0_2x,s1_2x,s5_2x,s6_2x,T,hm⟩
   unfold m_spec_l20Check_A2 at hm
   refine blk_hit (then_n ?_)
   refine wp_seq<|wp_rb rfl<|RQ.y rfl (Y.move (v:=.pointer (some ⟨ba0,oa0,none⟩)) s0_2x)<|RQ.y rfl (Y.move (v:=.pointer (some ⟨b26,o27+k20 * 5,none⟩)) s6_2x)<|RQ.y rfl (Y.move (v:=.pointer (some ⟨ba1,oa1,none⟩)) s1_2x)<|RQ.y rfl (Y.nilCheck rfl)<|RQ.y rfl (Y.fieldAddr (off:=1) rfl (by kernel_rfl))<|RQ.y rfl (Y.load (v:=.slice A4 d1.types.length c4) rfl (by kernel_rfl) (beC (cellT T (hca1 1 _ rfl))))<|RQ.y rfl (Y.move (v:=.int .i64 i16) s5_2x) ?_
   obtain ⟨x31,hx34,hm⟩:=bnd hm
   obtain ⟨k32,hk35,hl36,hx34⟩:=getI_some hx34
   obtain ⟨b38,o39,rfl,hbb38⟩:=h4.addr (by omega)
   obtain ⟨cs33,hRcs33,hc37⟩:=h4.el hx34
   have hScs33:=hRcs33
   obtain ⟨A40,n40,c40,rfl,h40,r40⟩:=hRcs33
   have e40:=h40.len; subst e40
   have q40:=len_le r40
   refine RQ.y rfl (Y.indexAddr (m:=k32) (sz:=1) rfl rfl hk35 hl36 (by kernel_rfl))<|RQ.y rfl (Y.load (v:=.slice A40 x31.length c40) rfl (by kernel_rfl) (beC (cellT T (hc37 0 _ rfl)))) ?_
   obtain ⟨y41,e42,hm⟩:=bnd hm
   refine RQ.call rfl (am3 rfl rfl rfl) (by kernel_rfl) (v:=.bool y41) (bel (K:=fun _=>True) fun w' hb'=>(c_m_spec_l20Fits d0 x19 x31 _ e42 _ _ _ w' (ptArg signatureRd_ok hba0 hSa0 hca0 (Tt T hb')) (ptArg agentRd_ok hbb26 hScs21 hc25 (Tt T hb')) (slArg typeRd_ok h40 r40 (Tt T hb'))))<|RQ.y rfl (Y.not (b':=(!y41)) rfl rfl)<|RQ.nil ?_
   intro w43 hb44
   have szw43:=hb44.size
   have T:=Tt T hb44
   refine then_n ?_
   rcases bcases y41 with c45|c45
   ·replace hm:=cF c45 hm
    refine cond_t rfl (vbn rfl c45 rfl)<|wp_seq<|wp_rs rfl<|RQ.y rfl (Y.assign (v:=.int .i64 8) rfl)<|RQ.nil<|then_n<|wp_ret ?_
    obtain rfl:=sj hm
    exact (blk_r (then_r (then_r (hit_r (blk_r (then_r (ret1 rfl rfl rfl ⟨rfl,T⟩)))))))
   replace hm:=cT c45 hm
   refine cond_f rfl (vbn rfl c45 rfl)<|wp_skip ?_
   refine blk_n (then_n ?_)
   refine wp_rs rfl<|RQ.y rfl (Y.move (v:=.int .i64 i16) s5_2x) ?_
   obtain ⟨s46,ks46,hm⟩:=bnd hm
   replace ks46:=ck_some ks46
   refine RQ.y rfl (Y.binI (v:=.int .i64 s46) rfl rfl (by rw [binI_add ks46.2,ks46.1]))<|RQ.y rfl (Y.assign (v:=.int .i64 s46) rfl)<|RQ.nil ?_
   exact (then_n ⟨g,_,Nat.lt_succ_self _,rfl,⟨s46,s0_2x,s1_2x,rfl,(by omega),T,(by rw [← hrec1]; exact hm)⟩⟩)
  rintro g f w48 ⟨i47,s0_2,s1_2,s5_2,s6_2,s7_2,nn7_2,T,hm⟩
  rcases g with _|g
  ·simp only [m_spec_l20Check_L2] at hm; cases hm
  obtain ⟨rec2,hrec2,hm⟩ :∃z,z=m_spec_l20Check_L2 d0 d1 i16 x19 K2 g∧m_spec_l20Check_B2 d0 d1 i16 x19 z K2 i47=some r:=⟨_,rfl,hm⟩
  unfold m_spec_l20Check_B2 at hm
  refine wp_seq<|wp_seq<|wp_rs rfl<|RQ.y rfl (Y.move (v:=.int .i64 i47) s7_2)<|RQ.y rfl (Y.move (v:=.pointer (some ⟨ba1,oa1,none⟩)) s1_2)<|RQ.y rfl (Y.nilCheck rfl)<|RQ.y rfl (Y.fieldAddr (off:=1) rfl (by kernel_rfl))<|RQ.y rfl (Y.load (v:=.slice A4 d1.types.length c4) rfl (by kernel_rfl) (eqC (cellT T (hca1 1 _ rfl))))<|RQ.y rfl (Y.move (v:=.int .i64 i16) s5_2) ?_
  obtain ⟨x49,hx52,hm⟩:=bnd hm
  obtain ⟨k50,hk53,hl54,hx52⟩:=getI_some hx52
  obtain ⟨b56,o57,rfl,hbb56⟩:=h4.addr (by omega)
  obtain ⟨cs51,hRcs51,hc55⟩:=h4.el hx52
  have hScs51:=hRcs51
  obtain ⟨A58,n58,c58,rfl,h58,r58⟩:=hRcs51
  have e58:=h58.len; subst e58
  have q58:=len_le r58
  refine RQ.y rfl (Y.indexAddr (m:=k50) (sz:=1) rfl rfl hk53 hl54 (by kernel_rfl))<|RQ.y rfl (Y.load (v:=.slice A58 x49.length c58) rfl (by kernel_rfl) (eqC (cellT T (hc55 0 _ rfl))))<|RQ.y rfl (Y.len (by kernel_rfl) rfl)<|RQ.y rfl (Y.binI (v:=.bool (decide (i47 < (x49.length:Int)))) rfl rfl rfl)<|RQ.nil<|then_n ?_
  rcases bcases (decide (i47 < (x49.length:Int))) with c59|c59
  ·replace hm:=cF c59 hm
   have pc59:=of_decide_eq_false c59
   refine cond_f rfl (vb rfl c59)<|wp_exit ?_
   exact (then_x (then_x (hit_x ⟨_,rfl,⟨s0_2,s1_2,s5_2,s6_2,T,(by rw [hK2] at hm; exact hm)⟩⟩)))
  replace hm:=cT c59 hm
  have pc59:=of_decide_eq_true c59
  refine cond_t rfl (vb rfl c59)<|wp_skip<|then_n<|wp_seq<|wp_block<|wp_seq<|wp_rl rfl<|RL.y rfl (Y.move (v:=.pointer (some ⟨b26,o27+k20 * 5,none⟩)) s6_2)<|RL.y rfl (Y.nilCheck rfl)<|RL.y rfl (Y.fieldAddr (off:=4) rfl (by kernel_rfl))<|RL.y rfl (Y.load (v:=.slice A29 x19.ports.length c29) rfl (by kernel_rfl) (eqC (cellT T (hc25 4 _ rfl))))<|RL.y rfl (Y.move (v:=.int .i64 i47) s7_2) ?_
  obtain ⟨x60,hx63,hm⟩:=bnd hm
  obtain ⟨k61,hk64,hl65,hx63⟩:=getI_some hx63
  obtain ⟨b67,o68,rfl,hbb67⟩:=h29.addr (by omega)
  obtain ⟨cs62,hRcs62,hc66⟩:=h29.el hx63
  have hScs62:=hRcs62
  obtain rfl:=hRcs62
  refine RL.y rfl (Y.indexAddr (m:=k61) (sz:=2) rfl rfl hk64 hl65 (by kernel_rfl))<|RL.y rfl (Y.loadN (cs:=[.int .i64 x60.agent,.int .i64 x60.slot]) rfl (by kernel_rfl) (cells2 (eqC (cellT T (hc66 0 _ rfl))) (eqC (cellT T (hc66 1 _ rfl))))) ?_
  refine RL.alloc (z:=.agg #[.int .i64 0,.int .i64 0]) rfl (by kernel_rfl) (fun w69 B70 hb71 szw69=>?_)
  replace B70:Blk w69 w48.heap.size 161 #[.int .i64 0,.int .i64 0]:=B70
  have GB70:w.heap.size≤w48.heap.size:=T.size
  have T:=Tt T hb71
  refine RL.store (v:=.agg #[.int .i64 x60.agent,.int .i64 x60.slot]) (cs':=#[.int .i64 x60.agent,.int .i64 x60.slot]) rfl rfl rfl B70 (by kernel_rfl) (by rfl) (by rfl) (by rfl) (fun w73 B74 ho75=>?_)
  have szw73:=ho75.size
  have T:=T.trans (ho75.below (by first|(simp; done)|(simp; omega)))
  refine RL.nil<|then_n<|wp_seq<|wp_rbd (by kernel_rfl) (by kernel_rfl)<|RQ.y rfl (Y.move (v:=.pointer (some ⟨ba0,oa0,none⟩)) s0_2)<|RQ.y rfl (Y.nilCheck rfl)<|RQ.y rfl (Y.fieldAddr (off:=0) rfl (by kernel_rfl))<|RQ.y rfl (Y.load (v:=.slice A1 d0.datas.length c1) rfl (by kernel_rfl) (beC (cellT T (hca0 0 _ rfl))))<|RQ.y rfl (Y.move (v:=.pointer (some ⟨ba1,oa1,none⟩)) s1_2)<|RQ.y rfl (Y.nilCheck rfl)<|RQ.y rfl (Y.fieldAddr (off:=1) rfl (by kernel_rfl))<|RQ.y rfl (Y.load (v:=.slice (some ⟨b56,o57,none⟩) d1.types.length c4) rfl (by kernel_rfl) (beC (cellT T (hca1 1 _ rfl))))<|RQ.y rfl (Y.move (v:=.int .i64 i16) s5_2) ?_
  obtain ⟨x76,hx79,hm⟩:=bnd hm
  obtain ⟨k77,hk80,hl81,hx79⟩:=getI_some hx79
  obtain ⟨cs78,hRcs78,hc82⟩:=h4.el hx79
  have hScs78:=hRcs78
  obtain ⟨A83,n83,c83,rfl,h83,r83⟩:=hRcs78
  have e83:=h83.len; subst e83
  have q83:=len_le r83
  refine RQ.y rfl (Y.indexAddr (m:=k77) (sz:=1) rfl rfl hk80 hl81 (by kernel_rfl))<|RQ.y rfl (Y.load (v:=.slice A83 x76.length c83) rfl (by kernel_rfl) (beC (cellT T (hc82 0 _ rfl))))<|RQ.y rfl (Y.move (v:=.int .i64 i47) s7_2) ?_
  obtain ⟨x84,hx87,hm⟩:=bnd hm
  obtain ⟨k85,hk88,hl89,hx87⟩:=getI_some hx87
  obtain ⟨b91,o92,rfl,hbb91⟩:=h83.addr (by omega)
  obtain ⟨cs86,hRcs86,hc90⟩:=h83.el hx87
  have hScs86:=hRcs86
  obtain ⟨A93,n93,c93,rfl,⟨h93,r93⟩⟩:=(typeRd_out hRcs86)
  have e93:=h93.len; subst e93
  have q93:=len_le r93
  refine RQ.y rfl (Y.indexAddr (m:=k85) (sz:=3) rfl rfl hk88 hl89 (by kernel_rfl)) ?_
  obtain ⟨y94,e95,hm⟩:=bnd hm
  refine RQ.call rfl (am2 rfl rfl) (by kernel_rfl) (v:=.bool y94) (bel (K:=fun _=>True) fun w' hb'=>(c_m_spec_l20Simple (SizeOf.sizeOf x84) d0.datas x84 _ e95 _ _ w' (slArg dataRd_ok h1 r1 (Tt T hb')) (ptArg typeRd_ok hbb91 hScs86 hc90 (Tt T hb'))))<|RQ.y rfl (Y.not (b':=(!y94)) rfl rfl)<|RQ.y rfl (Y.move (v:=.bool (!y94)) rfl) ?_
  rcases bcases y94 with c96|c96
  ·replace hm:=cF c96 hm
   iterate 24 refine RQ.skip (wantN (dj:=67) rfl (vbn rfl c96 rfl) rfl) ?_
   refine RQ.y rfl (Y.pick (b:=true) (v:=.bool true) (vbn rfl c96 rfl) rfl)<|RQ.nil ?_
   intro w97 hb98
   have szw97:=hb98.size
   have T:=Tt T hb98
   refine then_n<|cond_t rfl rfl<|wp_seq<|wp_rs rfl<|RQ.y rfl (Y.assign (v:=.int .i64 8) rfl)<|RQ.nil<|then_n<|wp_ret ?_
   obtain rfl:=sj hm
   exact (blk_r (then_r (then_r (hit_r (blk_r (then_r (blk_r (then_r (then_r (hit_r (blk_r (then_r (ret1 rfl rfl rfl ⟨rfl,T⟩)))))))))))))
  replace hm:=cT c96 hm
  refine RQ.y (wantT (dj:=67) rfl (vbn rfl c96 rfl)) (Y.move (v:=.pointer (some ⟨ba1,oa1,none⟩)) s1_2)<|RQ.y (wantT (dj:=67) rfl (vbn rfl c96 rfl)) (Y.nilCheck rfl)<|RQ.y (wantT (dj:=67) rfl (vbn rfl c96 rfl)) (Y.fieldAddr (off:=1) rfl (by kernel_rfl))<|RQ.y (wantT (dj:=67) rfl (vbn rfl c96 rfl)) (Y.load (v:=.slice (some ⟨b56,o57,none⟩) d1.types.length c4) rfl (by kernel_rfl) (beC (cellT T (hca1 1 _ rfl))))<|RQ.y (wantT (dj:=67) rfl (vbn rfl c96 rfl)) (Y.move (v:=.int .i64 i16) s5_2) ?_
  obtain ⟨x99,hx102,hm⟩:=bnd hm
  obtain ⟨k100,hk103,hl104,hx102⟩:=getI_some hx102
  obtain ⟨cs101,hRcs101,hc105⟩:=h4.el hx102
  have hScs101:=hRcs101
  obtain ⟨A106,n106,c106,rfl,h106,r106⟩:=hRcs101
  have e106:=h106.len; subst e106
  have q106:=len_le r106
  refine RQ.y (wantT (dj:=67) rfl (vbn rfl c96 rfl)) (Y.indexAddr (m:=k100) (sz:=1) rfl rfl hk103 hl104 (by kernel_rfl))<|RQ.y (wantT (dj:=67) rfl (vbn rfl c96 rfl)) (Y.load (v:=.slice A106 x99.length c106) rfl (by kernel_rfl) (beC (cellT T (hc105 0 _ rfl))))<|RQ.y (wantT (dj:=67) rfl (vbn rfl c96 rfl)) (Y.move (v:=.int .i64 i47) s7_2) ?_
  obtain ⟨x107,hx110,hm⟩:=bnd hm
  obtain ⟨k108,hk111,hl112,hx110⟩:=getI_some hx110
  obtain ⟨b114,o115,rfl,hbb114⟩:=h106.addr (by omega)
  obtain ⟨cs109,hRcs109,hc113⟩:=h106.el hx110
  have hScs109:=hRcs109
  obtain ⟨A116,n116,c116,rfl,⟨h116,r116⟩⟩:=(typeRd_out hRcs109)
  have e116:=h116.len; subst e116
  have q116:=len_le r116
  refine RQ.y (wantT (dj:=67) rfl (vbn rfl c96 rfl)) (Y.indexAddr (m:=k108) (sz:=3) rfl rfl hk111 hl112 (by kernel_rfl))<|RQ.y (wantT (dj:=67) rfl (vbn rfl c96 rfl)) (Y.loadN (cs:=[.int .i64 x107.kind,.string x107.name,.slice A116 x107.kids.length c116]) rfl (by kernel_rfl) (cells3 (beC (cellT T (hc113 0 _ rfl))) (beC (cellT T (hc113 1 _ rfl))) (beC (cellT T (hc113 2 _ rfl)))))<|RQ.y (wantT (dj:=67) rfl (vbn rfl c96 rfl)) (Y.move (v:=.pointer (some ⟨ba1,oa1,none⟩)) s1_2)<|RQ.y (wantT (dj:=67) rfl (vbn rfl c96 rfl)) (Y.nilCheck rfl)<|RQ.y (wantT (dj:=67) rfl (vbn rfl c96 rfl)) (Y.fieldAddr (off:=1) rfl (by kernel_rfl))<|RQ.y (wantT (dj:=67) rfl (vbn rfl c96 rfl)) (Y.load (v:=.slice (some ⟨b56,o57,none⟩) d1.types.length c4) rfl (by kernel_rfl) (beC (cellT T (hca1 1 _ rfl))))<|RQ.y (wantT (dj:=67) rfl (vbn rfl c96 rfl)) (Y.fieldAddr (off:=0) rfl (by kernel_rfl))<|RQ.y (wantT (dj:=67) rfl (vbn rfl c96 rfl)) (Y.load (v:=.int .i64 x60.agent) rfl (by kernel_rfl) (beC (blkCell B74 (i:=0) rfl))) ?_
  obtain ⟨x117,hx120,hm⟩:=bnd hm
  obtain ⟨k118,hk121,hl122,hx120⟩:=getI_some hx120
  obtain ⟨cs119,hRcs119,hc123⟩:=h4.el hx120
  have hScs119:=hRcs119
  obtain ⟨A124,n124,c124,rfl,h124,r124⟩:=hRcs119
  have e124:=h124.len; subst e124
  have q124:=len_le r124
  refine RQ.y (wantT (dj:=67) rfl (vbn rfl c96 rfl)) (Y.indexAddr (m:=k118) (sz:=1) rfl rfl hk121 hl122 (by kernel_rfl))<|RQ.y (wantT (dj:=67) rfl (vbn rfl c96 rfl)) (Y.load (v:=.slice A124 x117.length c124) rfl (by kernel_rfl) (beC (cellT T (hc123 0 _ rfl))))<|RQ.y (wantT (dj:=67) rfl (vbn rfl c96 rfl)) (Y.fieldAddr (off:=1) rfl (by kernel_rfl))<|RQ.y (wantT (dj:=67) rfl (vbn rfl c96 rfl)) (Y.load (v:=.int .i64 x60.slot) rfl (by kernel_rfl) (beC (blkCell B74 (i:=1) rfl))) ?_
  obtain ⟨x125,hx128,hm⟩:=bnd hm
  obtain ⟨k126,hk129,hl130,hx128⟩:=getI_some hx128
  obtain ⟨b132,o133,rfl,hbb132⟩:=h124.addr (by omega)
  obtain ⟨cs127,hRcs127,hc131⟩:=h124.el hx128
  have hScs127:=hRcs127
  obtain ⟨A134,n134,c134,rfl,⟨h134,r134⟩⟩:=(typeRd_out hRcs127)
  have e134:=h134.len; subst e134
  have q134:=len_le r134
  refine RQ.y (wantT (dj:=67) rfl (vbn rfl c96 rfl)) (Y.indexAddr (m:=k126) (sz:=3) rfl rfl hk129 hl130 (by kernel_rfl))<|RQ.y (wantT (dj:=67) rfl (vbn rfl c96 rfl)) (Y.loadN (cs:=[.int .i64 x125.kind,.string x125.name,.slice A134 x125.kids.length c134]) rfl (by kernel_rfl) (cells3 (beC (cellT T (hc131 0 _ rfl))) (beC (cellT T (hc131 1 _ rfl))) (beC (cellT T (hc131 2 _ rfl))))) ?_
  obtain ⟨y135,e136,hm⟩:=bnd hm
  refine RQ.call (wantT (dj:=67) rfl (vbn rfl c96 rfl)) (am2 rfl rfl) (by kernel_rfl) (v:=.bool y135) (bel (K:=fun _=>True) fun w' hb'=>(c_m_spec_SameType (SizeOf.sizeOf x107) x107 x125 _ e136 _ _ w' (stArg (R:=typeRd) (typeRd_in ⟨_,_,_,rfl,⟨SlAt.now typeRd_ok h116 (Nat.le_refl _) (Tt T hb'),r116⟩⟩)) (stArg (R:=typeRd) (typeRd_in ⟨_,_,_,rfl,⟨SlAt.now typeRd_ok h134 (Nat.le_refl _) (Tt T hb'),r134⟩⟩))))<|RQ.y (wantT (dj:=67) rfl (vbn rfl c96 rfl)) (Y.not (b':=(!y135)) rfl rfl)<|RQ.y rfl (Y.pick (b:=false) (v:=.bool (!y135)) (vbn rfl c96 rfl) rfl)<|RQ.nil ?_
  intro w137 hb138
  have szw137:=hb138.size
  have T:=Tt T hb138
  refine then_n ?_
  rcases bcases y135 with c139|c139
  ·replace hm:=cF c139 hm
   refine cond_t rfl (vbn rfl c139 rfl)<|wp_seq<|wp_rs rfl<|RQ.y rfl (Y.assign (v:=.int .i64 8) rfl)<|RQ.nil<|then_n<|wp_ret ?_
   obtain rfl:=sj hm
   exact (blk_r (then_r (then_r (hit_r (blk_r (then_r (blk_r (then_r (then_r (hit_r (blk_r (then_r (ret1 rfl rfl rfl ⟨rfl,T⟩)))))))))))))
  replace hm:=cT c139 hm
  refine cond_f rfl (vbn rfl c139 rfl)<|wp_skip ?_
  refine blk_n (then_n ?_)
  refine wp_rs rfl<|RQ.y rfl (Y.move (v:=.int .i64 i47) s7_2)<|RQ.y rfl (Y.binI rfl rfl (binI_add (m:=i47) (by omega)))<|RQ.y rfl (Y.assign (v:=.int .i64 (i47+1)) rfl)<|RQ.nil ?_
  exact (then_n ⟨g,_,Nat.lt_succ_self _,rfl,⟨(i47+1),s0_2,s1_2,s5_2,s6_2,rfl,(by omega),T,(by rw [← hrec2]; exact hm)⟩⟩)
noncomputable def m_spec_l20Book_A1:Option Int:=
  some 0
noncomputable def m_spec_l20Book_B1 (d0:DSignature) (d1:List DTypedNet) (rec1:Int→Option Int) (K1:Option Int) (i12:Int):Option Int:=
  (bif (decide (i12 < (d1.length:Int))) then ((getI d1 i12).bind fun x15=>((m_spec_l20Check d0 x15).bind fun y26=>(bif (y26 != 0) then some y26 else ((getI d1 i12).bind fun x31=>((getI x31.types 0).bind fun x40=>((getI x40 0).bind fun x50=>((getI d0.defs i12).bind fun x60=>((m_spec_SameType (SizeOf.sizeOf x50) x50 x60).bind fun y70=>(bif y70 then (rec1 (i12+1)) else some 8))))))))) else (K1))
noncomputable def m_spec_l20Book_L1 (d0:DSignature) (d1:List DTypedNet) (K1:Option Int):Nat→Int→Option Int
  |0,_=>none
  |g+1,i12=>m_spec_l20Book_B1 d0 d1 (m_spec_l20Book_L1 d0 d1 K1 g) K1 i12
noncomputable def m_spec_l20Book (d0:DSignature) (d1:List DTypedNet):Option Int:=
  ((m_spec_l20Signature d0).bind fun y3=>(bif y3 then (bif ((d1.length:Int) != (d0.defs.length:Int)) then some 1 else (m_spec_l20Book_L1 d0 d1 m_spec_l20Book_A1 (d1.length+1) 0)) else some 1))
set_option maxHeartbeats 2000000 in
theorem c_m_spec_l20Book (d0:DSignature) (d1:List DTypedNet) (r:Int) (hm:m_spec_l20Book d0 d1=some r) (v0:Value) (v1:Value) (w:World) (hv0:Pt signatureRd w v0 d0) (hv1:Sl typedNetRd 2 w v1 d1) :
    Calls Tryz.prog 51 #[v0,v1] w fun e w'=>e=.returned (.int .i64 r)∧Below w.heap.size w w':=by
  obtain ⟨ba0,oa0,csa0,rfl,hba0,hRa0,hca0⟩:=hv0
  have hSa0:=hRa0
  obtain ⟨A1,n1,c1,A2,n2,c2,rfl,⟨h1,r1⟩,⟨h2,r2⟩⟩:=hRa0
  have e1:=h1.len; subst e1
  have q1:=len_le r1
  have e2:=h2.len; subst e2
  have q2:=len_le r2
  obtain ⟨Aa1,na1,ca1,rfl,ha1,ra1⟩:=hv1
  have ea1:=ha1.len; subst ea1
  have qa1:=len_le ra1
  have T:=Below.refl w.heap.size w
  unfold m_spec_l20Book at hm
  refine enter 52 Tryz.func51 rfl rfl rfl ?_
  intro f hf
  have s0:f 0=.pointer (some ⟨ba0,oa0,none⟩):=hf 0 _ rfl
  have s1:f 1=.slice Aa1 d1.length ca1:=hf 1 _ rfl
  refine wp_seq<|wp_rs rfl<|RQ.y rfl (Y.assign (v:=.int .i64 0) rfl)<|RQ.nil<|then_n<|wp_seq<|wp_seq<|wp_rb rfl<|RQ.y rfl (Y.move (v:=.pointer (some ⟨ba0,oa0,none⟩)) s0) ?_
  obtain ⟨y3,e4,hm⟩:=bnd hm
  refine RQ.call rfl (am1 rfl) (by kernel_rfl) (v:=.bool y3) (bel (K:=fun _=>True) fun w' hb'=>(c_m_spec_l20Signature d0 _ e4 _ w' (ptArg signatureRd_ok hba0 hSa0 hca0 (Tt T hb'))))<|RQ.y rfl (Y.not (b':=(!y3)) rfl rfl)<|RQ.y rfl (Y.move (v:=.bool (!y3)) rfl) ?_
  rcases bcases y3 with c5|c5
  ·replace hm:=cF c5 hm
   iterate 8 refine RQ.skip (wantN (dj:=10) rfl (vbn rfl c5 rfl) rfl) ?_
   refine RQ.y rfl (Y.pick (b:=true) (v:=.bool true) (vbn rfl c5 rfl) rfl)<|RQ.nil ?_
   intro w6 hb7
   have szw6:=hb7.size
   have T:=Tt T hb7
   refine then_n<|cond_t rfl rfl<|wp_seq<|wp_rs rfl<|RQ.y rfl (Y.assign (v:=.int .i64 1) rfl)<|RQ.nil<|then_n<|wp_ret ?_
   obtain rfl:=sj hm
   exact (then_r (ret1 rfl rfl rfl ⟨rfl,T⟩))
  replace hm:=cT c5 hm
  refine RQ.y (wantT (dj:=10) rfl (vbn rfl c5 rfl)) (Y.move (v:=.slice Aa1 d1.length ca1) s1)<|RQ.y (wantT (dj:=10) rfl (vbn rfl c5 rfl)) (Y.len (by kernel_rfl) rfl)<|RQ.y (wantT (dj:=10) rfl (vbn rfl c5 rfl)) (Y.move (v:=.pointer (some ⟨ba0,oa0,none⟩)) s0)<|RQ.y (wantT (dj:=10) rfl (vbn rfl c5 rfl)) (Y.nilCheck rfl)<|RQ.y (wantT (dj:=10) rfl (vbn rfl c5 rfl)) (Y.fieldAddr (off:=1) rfl (by kernel_rfl))<|RQ.y (wantT (dj:=10) rfl (vbn rfl c5 rfl)) (Y.load (v:=.slice A2 d0.defs.length c2) rfl (by kernel_rfl) (beC (cellT T (hca0 1 _ rfl))))<|RQ.y (wantT (dj:=10) rfl (vbn rfl c5 rfl)) (Y.len (by kernel_rfl) rfl)<|RQ.y (wantT (dj:=10) rfl (vbn rfl c5 rfl)) (Y.binI (v:=.bool ((d1.length:Int) != (d0.defs.length:Int))) rfl rfl rfl)<|RQ.y rfl (Y.pick (b:=false) (v:=.bool ((d1.length:Int) != (d0.defs.length:Int))) (vbn rfl c5 rfl) rfl)<|RQ.nil ?_
  intro w8 hb9
  have szw8:=hb9.size
  have T:=Tt T hb9
  refine then_n ?_
  rcases bcases ((d1.length:Int) != (d0.defs.length:Int)) with c10|c10
  ·replace hm:=cF c10 hm
   refine cond_f rfl (vb rfl c10)<|wp_skip<|then_n<|wp_seq<|wp_seq<|wp_rs rfl<|RQ.y rfl (Y.assign (v:=.int .i64 0) rfl)<|RQ.nil<|then_n<|wp_block ?_
   obtain ⟨K1,hK1,hm⟩ :∃K,K=m_spec_l20Book_A1∧m_spec_l20Book_L1 d0 d1 K (d1.length+1) 0=some r:=⟨_,rfl,hm⟩
   refine wp_loopX (fun g f w'=>∃(i12:Int),f 0=.pointer (some ⟨ba0,oa0,none⟩)∧f 1=.slice Aa1 d1.length ca1∧f 5=.int .i64 i12∧0≤i12∧Below w.heap.size w w'∧m_spec_l20Book_L1 d0 d1 K1 g i12=some r) 0 (fun f w'=>Below w.heap.size w w'∧m_spec_l20Book_A1  = some r) (d1.length+1) ⟨0,s0,s1,rfl,(by omega),T,hm⟩ ?_ ?_
   ·rintro f w11 ⟨T,hm⟩
    unfold m_spec_l20Book_A1 at hm
    refine blk_hit (then_n ?_)
    refine wp_seq<|wp_rs rfl<|RQ.y rfl (Y.assign (v:=.int .i64 0) rfl)<|RQ.nil<|then_n<|wp_ret ?_
    obtain rfl:=sj hm
    exact (ret1 rfl rfl rfl ⟨rfl,T⟩)
   rintro g f w13 ⟨i12,s0_1,s1_1,s5_1,nn5_1,T,hm⟩
   rcases g with _|g
   ·simp only [m_spec_l20Book_L1] at hm; cases hm
   obtain ⟨rec1,hrec1,hm⟩ :∃z,z=m_spec_l20Book_L1 d0 d1 K1 g∧m_spec_l20Book_B1 d0 d1 z K1 i12=some r:=⟨_,rfl,hm⟩
   unfold m_spec_l20Book_B1 at hm
   refine wp_seq<|wp_seq<|wp_rs rfl<|RQ.y rfl (Y.move (v:=.int .i64 i12) s5_1)<|RQ.y rfl (Y.move (v:=.slice Aa1 d1.length ca1) s1_1)<|RQ.y rfl (Y.len (by kernel_rfl) rfl)<|RQ.y rfl (Y.binI (v:=.bool (decide (i12 < (d1.length:Int)))) rfl rfl rfl)<|RQ.nil<|then_n ?_
   rcases bcases (decide (i12 < (d1.length:Int))) with c14|c14
   ·replace hm:=cF c14 hm
    have pc14:=of_decide_eq_false c14
    refine cond_f rfl (vb rfl c14)<|wp_exit ?_
    exact (then_x (then_x (hit_x ⟨_,rfl,⟨T,(by rw [hK1] at hm; exact hm)⟩⟩)))
   replace hm:=cT c14 hm
   have pc14:=of_decide_eq_true c14
   refine cond_t rfl (vb rfl c14)<|wp_skip<|then_n<|wp_seq<|wp_block<|wp_seq<|wp_seq<|wp_rb rfl<|RQ.y rfl (Y.move (v:=.pointer (some ⟨ba0,oa0,none⟩)) s0_1)<|RQ.y rfl (Y.move (v:=.slice Aa1 d1.length ca1) s1_1)<|RQ.y rfl (Y.move (v:=.int .i64 i12) s5_1) ?_
   obtain ⟨x15,hx18,hm⟩:=bnd hm
   obtain ⟨k16,hk19,hl20,hx18⟩:=getI_some hx18
   obtain ⟨b22,o23,rfl,hbb22⟩:=ha1.addr (by omega)
   obtain ⟨cs17,hRcs17,hc21⟩:=ha1.el hx18
   have hScs17:=hRcs17
   obtain ⟨A24,n24,c24,A25,n25,c25,rfl,⟨h24,r24⟩,⟨h25,r25⟩⟩:=hRcs17
   have e24:=h24.len; subst e24
   have q24:=len_le r24
   have e25:=h25.len; subst e25
   have q25:=len_le r25
   refine RQ.y rfl (Y.indexAddr (m:=k16) (sz:=2) rfl rfl hk19 hl20 (by kernel_rfl)) ?_
   obtain ⟨y26,e27,hm⟩:=bnd hm
   refine RQ.call rfl (am2 rfl rfl) (by kernel_rfl) (v:=.int .i64 y26) (bel (K:=fun _=>True) fun w' hb'=>(c_m_spec_l20Check d0 x15 _ e27 _ _ w' (ptArg signatureRd_ok hba0 hSa0 hca0 (Tt T hb')) (ptArg typedNetRd_ok hbb22 hScs17 hc21 (Tt T hb'))))<|RQ.y rfl (Y.assign (v:=.int .i64 y26) rfl)<|RQ.nil ?_
   intro w28 hb29
   have szw28:=hb29.size
   have T:=Tt T hb29
   refine then_n<|wp_seq<|wp_rs rfl<|RQ.y rfl (Y.move (v:=.int .i64 y26) rfl)<|RQ.y rfl (Y.binI (v:=.bool (y26 != 0)) rfl rfl rfl)<|RQ.nil<|then_n ?_
   rcases bcases (y26 != 0) with c30|c30
   ·replace hm:=cF c30 hm
    refine cond_f rfl (vb rfl c30)<|wp_skip<|then_n<|wp_seq<|wp_rbd (by kernel_rfl) (by kernel_rfl)<|RQ.y rfl (Y.move (v:=.slice (some ⟨b22,o23,none⟩) d1.length ca1) s1_1)<|RQ.y rfl (Y.move (v:=.int .i64 i12) s5_1) ?_
    obtain ⟨x31,hx34,hm⟩:=bnd hm
    obtain ⟨k32,hk35,hl36,hx34⟩:=getI_some hx34
    obtain ⟨cs33,hRcs33,hc37⟩:=ha1.el hx34
    have hScs33:=hRcs33
    obtain ⟨A38,n38,c38,A39,n39,c39,rfl,⟨h38,r38⟩,⟨h39,r39⟩⟩:=hRcs33
    have e38:=h38.len; subst e38
    have q38:=len_le r38
    have e39:=h39.len; subst e39
    have q39:=len_le r39
    refine RQ.y rfl (Y.indexAddr (m:=k32) (sz:=2) rfl rfl hk35 hl36 (by kernel_rfl))<|RQ.y rfl (Y.fieldAddr (off:=1) rfl (by kernel_rfl))<|RQ.y rfl (Y.load (v:=.slice A39 x31.types.length c39) rfl (by kernel_rfl) (beC (cellT T (hc37 1 _ rfl)))) ?_
    obtain ⟨x40,hx43,hm⟩:=bnd hm
    obtain ⟨k41,hk44,hl45,hx43⟩:=getI_some hx43
    obtain ⟨b47,o48,rfl,hbb47⟩:=h39.addr (by omega)
    obtain ⟨cs42,hRcs42,hc46⟩:=h39.el hx43
    have hScs42:=hRcs42
    obtain ⟨A49,n49,c49,rfl,h49,r49⟩:=hRcs42
    have e49:=h49.len; subst e49
    have q49:=len_le r49
    refine RQ.y rfl (Y.indexAddr (m:=k41) (sz:=1) rfl rfl hk44 hl45 (by kernel_rfl))<|RQ.y rfl (Y.load (v:=.slice A49 x40.length c49) rfl (by kernel_rfl) (beC (cellT T (hc46 0 _ rfl)))) ?_
    obtain ⟨x50,hx53,hm⟩:=bnd hm
    obtain ⟨k51,hk54,hl55,hx53⟩:=getI_some hx53
    obtain ⟨b57,o58,rfl,hbb57⟩:=h49.addr (by omega)
    obtain ⟨cs52,hRcs52,hc56⟩:=h49.el hx53
    have hScs52:=hRcs52
    obtain ⟨A59,n59,c59,rfl,⟨h59,r59⟩⟩:=(typeRd_out hRcs52)
    have e59:=h59.len; subst e59
    have q59:=len_le r59
    refine RQ.y rfl (Y.indexAddr (m:=k51) (sz:=3) rfl rfl hk54 hl55 (by kernel_rfl))<|RQ.y rfl (Y.loadN (cs:=[.int .i64 x50.kind,.string x50.name,.slice A59 x50.kids.length c59]) rfl (by kernel_rfl) (cells3 (beC (cellT T (hc56 0 _ rfl))) (beC (cellT T (hc56 1 _ rfl))) (beC (cellT T (hc56 2 _ rfl)))))<|RQ.y rfl (Y.move (v:=.pointer (some ⟨ba0,oa0,none⟩)) s0_1)<|RQ.y rfl (Y.nilCheck rfl)<|RQ.y rfl (Y.fieldAddr (off:=1) rfl (by kernel_rfl))<|RQ.y rfl (Y.load (v:=.slice A2 d0.defs.length c2) rfl (by kernel_rfl) (beC (cellT T (hca0 1 _ rfl))))<|RQ.y rfl (Y.move (v:=.int .i64 i12) s5_1) ?_
    obtain ⟨x60,hx63,hm⟩:=bnd hm
    obtain ⟨k61,hk64,hl65,hx63⟩:=getI_some hx63
    obtain ⟨b67,o68,rfl,hbb67⟩:=h2.addr (by omega)
    obtain ⟨cs62,hRcs62,hc66⟩:=h2.el hx63
    have hScs62:=hRcs62
    obtain ⟨A69,n69,c69,rfl,⟨h69,r69⟩⟩:=(typeRd_out hRcs62)
    have e69:=h69.len; subst e69
    have q69:=len_le r69
    refine RQ.y rfl (Y.indexAddr (m:=k61) (sz:=3) rfl rfl hk64 hl65 (by kernel_rfl))<|RQ.y rfl (Y.loadN (cs:=[.int .i64 x60.kind,.string x60.name,.slice A69 x60.kids.length c69]) rfl (by kernel_rfl) (cells3 (beC (cellT T (hc66 0 _ rfl))) (beC (cellT T (hc66 1 _ rfl))) (beC (cellT T (hc66 2 _ rfl))))) ?_
    obtain ⟨y70,e71,hm⟩:=bnd hm
    refine RQ.call rfl (am2 rfl rfl) (by kernel_rfl) (v:=.bool y70) (bel (K:=fun _=>True) fun w' hb'=>(c_m_spec_SameType (SizeOf.sizeOf x50) x50 x60 _ e71 _ _ w' (stArg (R:=typeRd) (typeRd_in ⟨_,_,_,rfl,⟨SlAt.now typeRd_ok h59 (Nat.le_refl _) (Tt T hb'),r59⟩⟩)) (stArg (R:=typeRd) (typeRd_in ⟨_,_,_,rfl,⟨SlAt.now typeRd_ok h69 (Nat.le_refl _) (Tt T hb'),r69⟩⟩))))<|RQ.y rfl (Y.not (b':=(!y70)) rfl rfl)<|RQ.nil ?_
    intro w72 hb73
    have szw72:=hb73.size
    have T:=Tt T hb73
    refine then_n ?_
    rcases bcases y70 with c74|c74
    ·replace hm:=cF c74 hm
     refine cond_t rfl (vbn rfl c74 rfl)<|wp_seq<|wp_rs rfl<|RQ.y rfl (Y.assign (v:=.int .i64 8) rfl)<|RQ.nil<|then_n<|wp_ret ?_
     obtain rfl:=sj hm
     exact (blk_r (then_r (then_r (hit_r (blk_r (then_r (ret1 rfl rfl rfl ⟨rfl,T⟩)))))))
    replace hm:=cT c74 hm
    refine cond_f rfl (vbn rfl c74 rfl)<|wp_skip ?_
    refine blk_n (then_n ?_)
    refine wp_rs rfl<|RQ.y rfl (Y.move (v:=.int .i64 i12) s5_1)<|RQ.y rfl (Y.binI rfl rfl (binI_add (m:=i12) (by omega)))<|RQ.y rfl (Y.assign (v:=.int .i64 (i12+1)) rfl)<|RQ.nil ?_
    exact (then_n ⟨g,_,Nat.lt_succ_self _,rfl,⟨(i12+1),s0_1,s1_1,rfl,(by omega),T,(by rw [← hrec1]; exact hm)⟩⟩)
   replace hm:=cT c30 hm
   refine cond_t rfl (vb rfl c30)<|wp_seq<|wp_rs rfl<|RQ.y rfl (Y.move (v:=.int .i64 y26) rfl)<|RQ.y rfl (Y.assign (v:=.int .i64 y26) rfl)<|RQ.nil<|then_n<|wp_ret ?_
   obtain rfl:=sj hm
   exact (then_r (blk_r (then_r (then_r (hit_r (blk_r (then_r (ret1 rfl rfl rfl ⟨rfl,T⟩))))))))
  replace hm:=cT c10 hm
  refine cond_t rfl (vb rfl c10)<|wp_seq<|wp_rs rfl<|RQ.y rfl (Y.assign (v:=.int .i64 1) rfl)<|RQ.nil<|then_n<|wp_ret ?_
  obtain rfl:=sj hm
  exact (then_r (ret1 rfl rfl rfl ⟨rfl,T⟩))
noncomputable def m_spec_CheckTypedBook (d0:DSignature) (d1:List DTypedNet):Option Int:=
  ((m_spec_l20Book d0 d1).bind fun y7=>some y7)
set_option maxHeartbeats 2000000 in
theorem c_m_spec_CheckTypedBook (d0:DSignature) (d1:List DTypedNet) (r:Int) (hm:m_spec_CheckTypedBook d0 d1=some r) (v0:Value) (v1:Value) (w:World) (hv0:St signatureRd w v0 d0) (hv1:Sl typedNetRd 2 w v1 d1) :
    Calls Tryz.prog 16 #[v0,v1] w fun e w'=>e=.returned (.int .i64 r)∧Below w.heap.size w w':=by
  obtain ⟨csa0,rfl,⟨A1,n1,c1,A2,n2,c2,rfl,⟨h1,r1⟩,⟨h2,r2⟩⟩⟩:=hv0
  have e1:=h1.len; subst e1
  have q1:=len_le r1
  have e2:=h2.len; subst e2
  have q2:=len_le r2
  obtain ⟨Aa1,na1,ca1,rfl,ha1,ra1⟩:=hv1
  have ea1:=ha1.len; subst ea1
  have qa1:=len_le ra1
  have T:=Below.refl w.heap.size w
  unfold m_spec_CheckTypedBook at hm
  refine enter 7 Tryz.func16 rfl rfl rfl ?_
  intro f hf
  have s0:f 0=.agg #[.slice A1 d0.datas.length c1,.slice A2 d0.defs.length c2]:=hf 0 _ rfl
  have s1:f 1=.slice Aa1 d1.length ca1:=hf 1 _ rfl
  refine wp_seq<|wp_rl rfl ?_
  refine RL.box rfl s0 (fun w3 B4 hb5 szw3=>?_)
  replace B4:Blk w3 w.heap.size 38 #[.slice A1 d0.datas.length c1,.slice A2 d0.defs.length c2]:=B4
  have GB4:w.heap.size≤w.heap.size:=T.size
  have T:=Tt T hb5
  refine RL.y rfl (Y.assign (v:=.int .i64 0) rfl)<|RL.nil<|then_n<|wp_seq<|wp_rb rfl<|RQ.y rfl (Y.move (v:=.slice Aa1 d1.length ca1) s1) ?_
  obtain ⟨y7,e8,hm⟩:=bnd hm
  refine RQ.call rfl (am2 rfl rfl) (by kernel_rfl) (v:=.int .i64 y7) (bel (K:=fun _=>True) fun w' hb'=>(c_m_spec_l20Book d0 d1 _ e8 _ _ w' (ptBox (R:=signatureRd) (blkT B4 hb') ⟨_,_,_,_,_,_,rfl,⟨SlAt.now dataRd_ok h1 (Nat.le_refl _) (Tt T hb'),r1⟩,⟨SlAt.now typeRd_ok h2 (Nat.le_refl _) (Tt T hb'),r2⟩⟩) (slArg typedNetRd_ok ha1 ra1 (Tt T hb'))))<|RQ.y rfl (Y.assign (v:=.int .i64 y7) rfl)<|RQ.nil ?_
  intro w9 hb10
  have szw9:=hb10.size
  have T:=Tt T hb10
  refine then_n<|wp_ret ?_
  obtain rfl:=sj hm
  exact (ret1 rfl rfl rfl ⟨rfl,T⟩)
noncomputable def m_impl_Signature_defType (d0:DSignature) (d1:Int):Option (DType × Bool):=
  (bif (decide (d1 < 0)) then some ((⟨0,ByteArray.empty,[]⟩:DType),false) else (bif (decide (d1 ≥ (d0.defs.length:Int))) then some ((⟨0,ByteArray.empty,[]⟩:DType),false) else ((getI d0.defs d1).bind fun x13=>some (x13,true))))
set_option maxHeartbeats 2000000 in
theorem c_m_impl_Signature_defType (d0:DSignature) (d1:Int) (r:DType × Bool) (hm:m_impl_Signature_defType d0 d1=some r) (v0:Value) (w:World) (hv0:St signatureRd w v0 d0) :
    Calls Tryz.prog 211 #[v0,.int .i64 d1] w fun e w'=>(∃(v0:Value),e=.returned (.tuple #[v0,.bool r.2])∧St typeRd w' v0 r.1)∧Below w.heap.size w w':=by
  obtain ⟨csa0,rfl,⟨A1,n1,c1,A2,n2,c2,rfl,⟨h1,r1⟩,⟨h2,r2⟩⟩⟩:=hv0
  have e1:=h1.len; subst e1
  have q1:=len_le r1
  have e2:=h2.len; subst e2
  have q2:=len_le r2
  have T:=Below.refl w.heap.size w
  unfold m_impl_Signature_defType at hm
  refine enter 21 Tryz.func211 rfl rfl rfl ?_
  intro f hf
  have s0:f 0=.agg #[.slice A1 d0.datas.length c1,.slice A2 d0.defs.length c2]:=hf 0 _ rfl
  have s1:f 1=.int .i64 d1:=hf 1 _ rfl
  refine wp_seq<|wp_rl rfl ?_
  refine RL.box rfl s0 (fun w3 B4 hb5 szw3=>?_)
  replace B4:Blk w3 w.heap.size 38 #[.slice A1 d0.datas.length c1,.slice A2 d0.defs.length c2]:=B4
  have GB4:w.heap.size≤w.heap.size:=T.size
  have T:=Tt T hb5
  refine RL.alloc (z:=.agg #[.int .i64 0,.string ByteArray.empty,.slice none 0 0]) rfl (by kernel_rfl) (fun w7 B8 hb9 szw7=>?_)
  replace B8:Blk w7 w3.heap.size 114 #[.int .i64 0,.string ByteArray.empty,.slice none 0 0]:=B8
  have GB8:w.heap.size≤w3.heap.size:=T.size
  have Eob10_ob6:=Nat.ne_of_lt B4.lt
  have B4:=blkT B4 hb9
  have T:=Tt T hb9
  refine RL.y rfl (Y.assign (v:=.bool false) rfl)<|RL.nil<|then_n<|wp_seq<|wp_seq<|wp_rs rfl<|RQ.y rfl (Y.move (v:=.int .i64 d1) s1)<|RQ.y rfl (Y.binI (v:=.bool (decide (d1 < 0))) rfl rfl rfl)<|RQ.y rfl (Y.move (v:=.bool (decide (d1 < 0))) rfl) ?_
  rcases bcases (decide (d1 < 0)) with c11|c11
  ·replace hm:=cF c11 hm
   have pc11:=of_decide_eq_false c11
   refine RQ.y (wantT (dj:=8) rfl (vb rfl c11)) (Y.move (v:=.int .i64 d1) s1)<|RQ.y (wantT (dj:=8) rfl (vb rfl c11)) (Y.fieldAddr (off:=1) rfl (by kernel_rfl))<|RQ.y (wantT (dj:=8) rfl (vb rfl c11)) (Y.load (v:=.slice A2 d0.defs.length c2) rfl (by kernel_rfl) (eqC (blkCell B4 (i:=1) rfl)))<|RQ.y (wantT (dj:=8) rfl (vb rfl c11)) (Y.len (by kernel_rfl) rfl)<|RQ.y (wantT (dj:=8) rfl (vb rfl c11)) (Y.binI (v:=.bool (decide (d1 ≥ (d0.defs.length:Int)))) rfl rfl rfl)<|RQ.y rfl (Y.pick (b:=false) (v:=.bool (decide (d1 ≥ (d0.defs.length:Int)))) (vb rfl c11) rfl)<|RQ.nil<|then_n ?_
   rcases bcases (decide (d1 ≥ (d0.defs.length:Int))) with c12|c12
   ·replace hm:=cF c12 hm
    have pc12:=of_decide_eq_false c12
    refine cond_f rfl (vb rfl c12)<|wp_skip<|then_n<|wp_seq<|wp_rl rfl<|RL.y rfl (Y.fieldAddr (off:=1) rfl (by kernel_rfl))<|RL.y rfl (Y.load (v:=.slice A2 d0.defs.length c2) rfl (by kernel_rfl) (eqC (blkCell B4 (i:=1) rfl)))<|RL.y rfl (Y.move (v:=.int .i64 d1) s1) ?_
    obtain ⟨x13,hx16,hm⟩:=bnd hm
    obtain ⟨k14,hk17,hl18,hx16⟩:=getI_some hx16
    obtain ⟨b20,o21,rfl,hbb20⟩:=h2.addr (by omega)
    obtain ⟨cs15,hRcs15,hc19⟩:=h2.el hx16
    have hScs15:=hRcs15
    obtain ⟨A22,n22,c22,rfl,⟨h22,r22⟩⟩:=(typeRd_out hRcs15)
    have e22:=h22.len; subst e22
    have q22:=len_le r22
    refine RL.y rfl (Y.indexAddr (m:=k14) (sz:=3) rfl rfl hk17 hl18 (by kernel_rfl))<|RL.y rfl (Y.loadN (cs:=[.int .i64 x13.kind,.string x13.name,.slice A22 x13.kids.length c22]) rfl (by kernel_rfl) (cells3 (eqC (cellT T (hc19 0 _ rfl))) (eqC (cellT T (hc19 1 _ rfl))) (eqC (cellT T (hc19 2 _ rfl))))) ?_
    refine RL.store (v:=.agg #[.int .i64 x13.kind,.string x13.name,.slice A22 x13.kids.length c22]) (cs':=#[.int .i64 x13.kind,.string x13.name,.slice A22 x13.kids.length c22]) rfl rfl rfl B8 (by kernel_rfl) (by rfl) (by rfl) (by rfl) (fun w23 B24 ho25=>?_)
    have szw23:=ho25.size
    have B4:=B4.only_ ho25 (by intro hin; simp at hin; exact Eob10_ob6 hin)
    have T:=T.trans (ho25.below (by first|(simp; done)|(simp; omega)))
    refine RL.y rfl (Y.assign (v:=.bool true) rfl)<|RL.nil<|then_n<|wp_ret ?_
    obtain rfl:=sj hm
    exact (retct (cs:=[.int .i64 x13.kind,.string x13.name,.slice A22 x13.kids.length c22]) rfl rfl rfl rfl (by kernel_rfl) (blkCells B24) ⟨⟨_,rfl,(stArg (R:=typeRd) (typeRd_in ⟨_,_,_,rfl,⟨SlAt.now typeRd_ok h22 (Nat.le_refl _) T,r22⟩⟩))⟩,T⟩)
   replace hm:=cT c12 hm
   have pc12:=of_decide_eq_true c12
   refine cond_t rfl (vb rfl c12)<|wp_seq<|wp_rl rfl<|RL.y rfl (Y.build0 (cells:=#[.int .i64 0,.string ByteArray.empty,.slice none 0 0])  (by kernel_rfl) (by kernel_rfl)) ?_
   refine RL.store (v:=.agg #[.int .i64 0,.string ByteArray.empty,.slice none 0 0]) (cs':=#[.int .i64 0,.string ByteArray.empty,.slice none 0 0]) rfl rfl rfl B8 (by kernel_rfl) (by rfl) (by rfl) (by rfl) (fun w26 B27 ho28=>?_)
   have szw26:=ho28.size
   have B4:=B4.only_ ho28 (by intro hin; simp at hin; exact Eob10_ob6 hin)
   have T:=T.trans (ho28.below (by first|(simp; done)|(simp; omega)))
   refine RL.y rfl (Y.assign (v:=.bool false) rfl)<|RL.nil<|then_n<|wp_ret ?_
   obtain rfl:=sj hm
   exact (then_r (retct (cs:=[.int .i64 0,.string ByteArray.empty,.slice none 0 0]) rfl rfl rfl rfl (by kernel_rfl) (blkCells B27) ⟨⟨_,rfl,(stArg (R:=typeRd) (typeRd_in ⟨_,_,_,rfl,⟨SlAt.none_,Nat.le_refl _,Nat.zero_le _⟩⟩))⟩,T⟩))
  replace hm:=cT c11 hm
  have pc11:=of_decide_eq_true c11
  iterate 5 refine RQ.skip (wantN (dj:=8) rfl (vb rfl c11) rfl) ?_
  refine RQ.y rfl (Y.pick (b:=true) (v:=.bool true) (vb rfl c11) rfl)<|RQ.nil<|then_n<|cond_t rfl rfl<|wp_seq<|wp_rl rfl<|RL.y rfl (Y.build0 (cells:=#[.int .i64 0,.string ByteArray.empty,.slice none 0 0])  (by kernel_rfl) (by kernel_rfl)) ?_
  refine RL.store (v:=.agg #[.int .i64 0,.string ByteArray.empty,.slice none 0 0]) (cs':=#[.int .i64 0,.string ByteArray.empty,.slice none 0 0]) rfl rfl rfl B8 (by kernel_rfl) (by rfl) (by rfl) (by rfl) (fun w29 B30 ho31=>?_)
  have szw29:=ho31.size
  have B4:=B4.only_ ho31 (by intro hin; simp at hin; exact Eob10_ob6 hin)
  have T:=T.trans (ho31.below (by first|(simp; done)|(simp; omega)))
  refine RL.y rfl (Y.assign (v:=.bool false) rfl)<|RL.nil<|then_n<|wp_ret ?_
  obtain rfl:=sj hm
  exact (then_r (retct (cs:=[.int .i64 0,.string ByteArray.empty,.slice none 0 0]) rfl rfl rfl rfl (by kernel_rfl) (blkCells B30) ⟨⟨_,rfl,(stArg (R:=typeRd) (typeRd_in ⟨_,_,_,rfl,⟨SlAt.none_,Nat.le_refl _,Nat.zero_le _⟩⟩))⟩,T⟩))
noncomputable def m_impl_Signature_hasType (d0:DSignature) (d1:Int) (d2:DType):Option Bool:=
  ((m_impl_Signature_defType d0 d1).bind fun y12=>(bif y12.2 then ((m_impl_SameType (SizeOf.sizeOf y12.1) y12.1 d2).bind fun y32=>some y32) else some false))
set_option maxHeartbeats 2000000 in
theorem c_m_impl_Signature_hasType (d0:DSignature) (d1:Int) (d2:DType) (r:Bool) (hm:m_impl_Signature_hasType d0 d1 d2=some r) (v0:Value) (v2:Value) (w:World) (hv0:St signatureRd w v0 d0) (hv2:St typeRd w v2 d2) :
    Calls Tryz.prog 164 #[v0,.int .i64 d1,v2] w fun e w'=>e=.returned (.bool r)∧Below w.heap.size w w':=by
  obtain ⟨csa0,rfl,⟨A1,n1,c1,A2,n2,c2,rfl,⟨h1,r1⟩,⟨h2,r2⟩⟩⟩:=hv0
  have e1:=h1.len; subst e1
  have q1:=len_le r1
  have e2:=h2.len; subst e2
  have q2:=len_le r2
  obtain ⟨csa2,rfl,hRR2⟩:=hv2
  obtain ⟨A3,n3,c3,rfl,⟨h3,r3⟩⟩:=(typeRd_out hRR2)
  have e3:=h3.len; subst e3
  have q3:=len_le r3
  have T:=Below.refl w.heap.size w
  unfold m_impl_Signature_hasType at hm
  refine enter 21 Tryz.func164 rfl rfl rfl ?_
  intro f hf
  have s0:f 0=.agg #[.slice A1 d0.datas.length c1,.slice A2 d0.defs.length c2]:=hf 0 _ rfl
  have s1:f 1=.int .i64 d1:=hf 1 _ rfl
  have s2:f 2=.agg #[.int .i64 d2.kind,.string d2.name,.slice A3 d2.kids.length c3]:=hf 2 _ rfl
  refine wp_seq<|wp_rl rfl ?_
  refine RL.box rfl s0 (fun w4 B5 hb6 szw4=>?_)
  replace B5:Blk w4 w.heap.size 38 #[.slice A1 d0.datas.length c1,.slice A2 d0.defs.length c2]:=B5
  have GB5:w.heap.size≤w.heap.size:=T.size
  have T:=Tt T hb6
  refine RL.box rfl s2 (fun w8 B9 hb10 szw8=>?_)
  replace B9:Blk w8 w4.heap.size 114 #[.int .i64 d2.kind,.string d2.name,.slice A3 d2.kids.length c3]:=B9
  have GB9:w.heap.size≤w4.heap.size:=T.size
  have Eob11_ob7:=Nat.ne_of_lt B5.lt
  have B5:=blkT B5 hb10
  have T:=Tt T hb10
  refine RL.y rfl (Y.assign (v:=.bool false) rfl)<|RL.nil<|then_n<|wp_seq<|wp_rl rfl<|RL.y rfl (Y.loadN (cs:=[.slice A1 d0.datas.length c1,.slice A2 d0.defs.length c2]) rfl (by kernel_rfl) (cells2 (eqC (blkCell B5 (i:=0) rfl)) (eqC (blkCell B5 (i:=1) rfl))))<|RL.y rfl (Y.move (v:=.int .i64 d1) s1) ?_
  obtain ⟨y12,e13,hm⟩:=bnd hm
  refine RL.call rfl (am2 rfl rfl) (by kernel_rfl) ((c_m_impl_Signature_defType d0 d1 _ e13 _ _ (stArg (R:=signatureRd) ⟨_,_,_,_,_,_,rfl,⟨SlAt.now dataRd_ok h1 (Nat.le_refl _) T,r1⟩,⟨SlAt.now typeRd_ok h2 (Nat.le_refl _) T,r2⟩⟩)).mono ?_)
  rintro _ w16 ⟨⟨v14,rfl,hv15⟩,hb17⟩
  refine ⟨_,rfl,?_⟩
  have szw16:=hb17.size
  have B5:=blkT B5 hb17
  have B9:=blkT B9 hb17
  have T:=Tt T hb17
  obtain ⟨cs19,rfl,hR20⟩:=hv15
  obtain ⟨A21,n21,c21,rfl,⟨h21,r21⟩⟩:=(typeRd_out hR20)
  have e21:=h21.len; subst e21
  have q21:=len_le r21
  have U18:=Below.refl w16.heap.size w16
  refine RL.y rfl (Y.move (v:=.tuple #[.agg #[.int .i64 y12.1.kind,.string y12.1.name,.slice A21 y12.1.kids.length c21],.bool y12.2]) rfl)<|RL.y rfl (Y.extract (i:=0) rfl rfl)<|RL.y rfl (Y.extract (i:=1) rfl rfl) ?_
  refine RL.alloc (z:=.agg #[.int .i64 0,.string ByteArray.empty,.slice none 0 0]) rfl (by kernel_rfl) (fun w22 B23 hb24 szw22=>?_)
  replace B23:Blk w22 w16.heap.size 114 #[.int .i64 0,.string ByteArray.empty,.slice none 0 0]:=B23
  have GB23:w.heap.size≤w16.heap.size:=T.size
  have Eob25_ob7:=Nat.ne_of_lt B5.lt
  have Eob25_ob11:=Nat.ne_of_lt B9.lt
  have B5:=blkT B5 hb24
  have B9:=blkT B9 hb24
  try have U18:=Tt U18 hb24
  have T:=Tt T hb24
  refine RL.store (v:=.agg #[.int .i64 y12.1.kind,.string y12.1.name,.slice A21 y12.1.kids.length c21]) (cs':=#[.int .i64 y12.1.kind,.string y12.1.name,.slice A21 y12.1.kids.length c21]) rfl rfl rfl B23 (by kernel_rfl) (by rfl) (by rfl) (by rfl) (fun w26 B27 ho28=>?_)
  have szw26:=ho28.size
  have B5:=B5.only_ ho28 (by intro hin; simp at hin; exact Eob25_ob7 hin)
  have B9:=B9.only_ ho28 (by intro hin; simp at hin; exact Eob25_ob11 hin)
  try have U18:=U18.trans (ho28.below (by first|(simp; done)|(simp; omega)))
  have T:=T.trans (ho28.below (by first|(simp; done)|(simp; omega)))
  refine RL.y rfl (Y.assign (v:=.bool y12.2) rfl)<|RL.nil<|then_n<|wp_seq<|wp_rb rfl<|RQ.y rfl (Y.move (v:=.bool y12.2) rfl)<|RQ.y rfl (Y.move (v:=.bool y12.2) rfl) ?_
  rcases bcases y12.2 with c29|c29
  ·replace hm:=cF c29 hm
   iterate 3 refine RQ.skip (wantN (dj:=16) rfl (vb rfl c29) rfl) ?_
   refine RQ.y rfl (Y.pick (b:=false) (v:=.bool false) (vb rfl c29) rfl)<|RQ.y rfl (Y.assign (v:=.bool false) rfl)<|RQ.nil ?_
   intro w30 hb31
   have szw30:=hb31.size
   try have U18:=Tt U18 hb31
   have T:=Tt T hb31
   refine then_n<|wp_ret ?_
   obtain rfl:=sj hm
   exact (ret1 rfl rfl rfl ⟨rfl,T⟩)
  replace hm:=cT c29 hm
  refine RQ.y (wantT (dj:=16) rfl (vb rfl c29)) (Y.loadN (cs:=[.int .i64 y12.1.kind,.string y12.1.name,.slice A21 y12.1.kids.length c21]) rfl (by kernel_rfl) (cells3 (beC (blkCell B27 (i:=0) rfl)) (beC (blkCell B27 (i:=1) rfl)) (beC (blkCell B27 (i:=2) rfl))))<|RQ.y (wantT (dj:=16) rfl (vb rfl c29)) (Y.loadN (cs:=[.int .i64 d2.kind,.string d2.name,.slice A3 d2.kids.length c3]) rfl (by kernel_rfl) (cells3 (beC (blkCell B9 (i:=0) rfl)) (beC (blkCell B9 (i:=1) rfl)) (beC (blkCell B9 (i:=2) rfl)))) ?_
  obtain ⟨y32,e33,hm⟩:=bnd hm
  refine RQ.call (wantT (dj:=16) rfl (vb rfl c29)) (am2 rfl rfl) (by kernel_rfl) (v:=.bool y32) (bel (K:=fun _=>True) fun w' hb'=>(c_m_impl_SameType (SizeOf.sizeOf y12.1) y12.1 d2 _ e33 _ _ w' (stArg (R:=typeRd) (typeRd_in ⟨_,_,_,rfl,⟨SlAt.now typeRd_ok h21 (Nat.le_refl _) (Tt U18 hb'),r21⟩⟩)) (stArg (R:=typeRd) (typeRd_in ⟨_,_,_,rfl,⟨SlAt.now typeRd_ok h3 (Nat.le_refl _) (Tt T hb'),r3⟩⟩))))<|RQ.y rfl (Y.pick (b:=true) (v:=.bool y32) (vb rfl c29) rfl)<|RQ.y rfl (Y.assign (v:=.bool y32) rfl)<|RQ.nil ?_
  intro w34 hb35
  have szw34:=hb35.size
  try have U18:=Tt U18 hb35
  have T:=Tt T hb35
  refine then_n<|wp_ret ?_
  obtain rfl:=sj hm
  exact (ret1 rfl rfl rfl ⟨rfl,T⟩)
noncomputable def m_impl_Signature_constructors (d0:DSignature) (d1:DType):Option (List DConstructor):=
  (bif (d1.kind != 2) then some ([]) else ((m_impl_findData d0.datas d1.name).bind fun y13=>((getI d0.datas y13).bind fun x15=>some x15.cons)))
set_option maxHeartbeats 2000000 in
theorem c_m_impl_Signature_constructors (d0:DSignature) (d1:DType) (r:List DConstructor) (hm:m_impl_Signature_constructors d0 d1=some r) (v0:Value) (v1:Value) (w:World) (hv0:St signatureRd w v0 d0) (hv1:St typeRd w v1 d1) :
    Calls Tryz.prog 160 #[v0,v1] w fun e w'=>(∃(v0:Value),e=.returned v0∧Sl constructorRd 2 w' v0 r)∧Below w.heap.size w w':=by
  obtain ⟨csa0,rfl,⟨A1,n1,c1,A2,n2,c2,rfl,⟨h1,r1⟩,⟨h2,r2⟩⟩⟩:=hv0
  have e1:=h1.len; subst e1
  have q1:=len_le r1
  have e2:=h2.len; subst e2
  have q2:=len_le r2
  obtain ⟨csa1,rfl,hRR1⟩:=hv1
  obtain ⟨A3,n3,c3,rfl,⟨h3,r3⟩⟩:=(typeRd_out hRR1)
  have e3:=h3.len; subst e3
  have q3:=len_le r3
  have T:=Below.refl w.heap.size w
  unfold m_impl_Signature_constructors at hm
  refine enter 18 Tryz.func160 rfl rfl rfl ?_
  intro f hf
  have s0:f 0=.agg #[.slice A1 d0.datas.length c1,.slice A2 d0.defs.length c2]:=hf 0 _ rfl
  have s1:f 1=.agg #[.int .i64 d1.kind,.string d1.name,.slice A3 d1.kids.length c3]:=hf 1 _ rfl
  refine wp_seq<|wp_rl rfl ?_
  refine RL.box rfl s0 (fun w4 B5 hb6 szw4=>?_)
  replace B5:Blk w4 w.heap.size 38 #[.slice A1 d0.datas.length c1,.slice A2 d0.defs.length c2]:=B5
  have GB5:w.heap.size≤w.heap.size:=T.size
  have T:=Tt T hb6
  refine RL.box rfl s1 (fun w8 B9 hb10 szw8=>?_)
  replace B9:Blk w8 w4.heap.size 114 #[.int .i64 d1.kind,.string d1.name,.slice A3 d1.kids.length c3]:=B9
  have GB9:w.heap.size≤w4.heap.size:=T.size
  have Eob11_ob7:=Nat.ne_of_lt B5.lt
  have B5:=blkT B5 hb10
  have T:=Tt T hb10
  refine RL.y rfl (Y.assign (v:=.slice none 0 0) rfl)<|RL.nil<|then_n<|wp_seq<|wp_seq<|wp_rs rfl<|RQ.y rfl (Y.fieldAddr (off:=0) rfl (by kernel_rfl))<|RQ.y rfl (Y.load (v:=.int .i64 d1.kind) rfl (by kernel_rfl) (eqC (blkCell B9 (i:=0) rfl)))<|RQ.y rfl (Y.binI (v:=.bool (d1.kind != 2)) rfl rfl rfl)<|RQ.nil<|then_n ?_
  rcases bcases (d1.kind != 2) with c12|c12
  ·replace hm:=cF c12 hm
   refine cond_f rfl (vb rfl c12)<|wp_skip<|then_n<|wp_seq<|wp_rbd (by kernel_rfl) (by kernel_rfl)<|RQ.y rfl (Y.fieldAddr (off:=0) rfl (by kernel_rfl))<|RQ.y rfl (Y.load (v:=.slice A1 d0.datas.length c1) rfl (by kernel_rfl) (beC (blkCell B5 (i:=0) rfl)))<|RQ.y rfl (Y.fieldAddr (off:=0) rfl (by kernel_rfl))<|RQ.y rfl (Y.load (v:=.slice A1 d0.datas.length c1) rfl (by kernel_rfl) (beC (blkCell B5 (i:=0) rfl)))<|RQ.y rfl (Y.fieldAddr (off:=1) rfl (by kernel_rfl))<|RQ.y rfl (Y.load (v:=.string d1.name) rfl (by kernel_rfl) (beC (blkCell B9 (i:=1) rfl))) ?_
   obtain ⟨y13,e14,hm⟩:=bnd hm
   refine RQ.call rfl (am2 rfl rfl) (by kernel_rfl) (v:=.int .i64 y13) (bel (K:=fun _=>True) fun w' hb'=>(c_m_impl_findData d0.datas d1.name _ e14 _ w' (slArg dataRd_ok h1 r1 (Tt T hb')))) ?_
   obtain ⟨x15,hx18,hm⟩:=bnd hm
   obtain ⟨k16,hk19,hl20,hx18⟩:=getI_some hx18
   obtain ⟨b22,o23,rfl,hbb22⟩:=h1.addr (by omega)
   obtain ⟨cs17,hRcs17,hc21⟩:=h1.el hx18
   have hScs17:=hRcs17
   obtain ⟨A24,n24,c24,rfl,⟨h24,r24⟩⟩:=hRcs17
   have e24:=h24.len; subst e24
   have q24:=len_le r24
   refine RQ.y rfl (Y.indexAddr (m:=k16) (sz:=2) rfl rfl hk19 hl20 (by kernel_rfl))<|RQ.y rfl (Y.fieldAddr (off:=1) rfl (by kernel_rfl))<|RQ.y rfl (Y.load (v:=.slice A24 x15.cons.length c24) rfl (by kernel_rfl) (beC (cellT T (hc21 1 _ rfl))))<|RQ.y rfl (Y.assign (v:=.slice A24 x15.cons.length c24) rfl)<|RQ.nil ?_
   intro w25 hb26
   have szw25:=hb26.size
   have T:=Tt T hb26
   refine then_n<|wp_ret ?_
   obtain rfl:=sj hm
   exact (ret1 rfl rfl rfl ⟨⟨_,rfl,(slArg constructorRd_ok h24 r24 T)⟩,T⟩)
  replace hm:=cT c12 hm
  refine cond_t rfl (vb rfl c12)<|wp_seq<|wp_rs rfl<|RQ.y rfl (Y.assign (v:=.slice none 0 0) rfl)<|RQ.nil<|then_n<|wp_ret ?_
  obtain rfl:=sj hm
  exact (then_r (ret1 rfl rfl rfl ⟨⟨_,rfl,slNil⟩,T⟩))
noncomputable def m_impl_typesFit_1 (d0:DAgent) (d1:List DType):Option Bool:=
  some ((d0.ports.length:Int)==(d1.length:Int))
set_option maxHeartbeats 2000000 in
theorem c_m_impl_typesFit_1 (d0:DAgent) (d1:List DType) (r:Bool) (hm:m_impl_typesFit_1 d0 d1=some r) (v0:Value) (v1:Value) (w:World) (hv0:St agentRd w v0 d0) (hv1:Sl typeRd 3 w v1 d1) :
    Calls Tryz.prog 156 #[v0,v1] w fun e w'=>e=.returned (.bool r)∧Below w.heap.size w w':=by
  obtain ⟨csa0,rfl,⟨A1,n1,c1,A2,n2,c2,rfl,⟨h1,r1⟩,⟨h2,r2⟩⟩⟩:=hv0
  have e1:=h1.len; subst e1
  have q1:=len_le r1
  have e2:=h2.len; subst e2
  have q2:=len_le r2
  obtain ⟨Aa1,na1,ca1,rfl,ha1,ra1⟩:=hv1
  have ea1:=ha1.len; subst ea1
  have qa1:=len_le ra1
  have T:=Below.refl w.heap.size w
  unfold m_impl_typesFit_1 at hm
  refine enter 11 Tryz.func156 rfl rfl rfl ?_
  intro f hf
  have s0:f 0=.agg #[.int .i64 d0.kind,.int .i64 d0.level,.int .i64 d0.value,.slice A1 d0.data.length c1,.slice A2 d0.ports.length c2]:=hf 0 _ rfl
  have s1:f 1=.slice Aa1 d1.length ca1:=hf 1 _ rfl
  refine wp_seq<|wp_rl rfl ?_
  refine RL.box rfl s0 (fun w3 B4 hb5 szw3=>?_)
  replace B4:Blk w3 w.heap.size 159 #[.int .i64 d0.kind,.int .i64 d0.level,.int .i64 d0.value,.slice A1 d0.data.length c1,.slice A2 d0.ports.length c2]:=B4
  have GB4:w.heap.size≤w.heap.size:=T.size
  have T:=Tt T hb5
  refine RL.y rfl (Y.assign (v:=.bool false) rfl)<|RL.nil<|then_n<|wp_seq<|wp_rs rfl<|RQ.y rfl (Y.fieldAddr (off:=4) rfl (by kernel_rfl))<|RQ.y rfl (Y.load (v:=.slice A2 d0.ports.length c2) rfl (by kernel_rfl) (eqC (blkCell B4 (i:=4) rfl)))<|RQ.y rfl (Y.len (by kernel_rfl) rfl)<|RQ.y rfl (Y.move (v:=.slice Aa1 d1.length ca1) s1)<|RQ.y rfl (Y.len (by kernel_rfl) rfl)<|RQ.y rfl (Y.binI (v:=.bool ((d0.ports.length:Int)==(d1.length:Int))) rfl rfl rfl)<|RQ.y rfl (Y.assign (v:=.bool ((d0.ports.length:Int)==(d1.length:Int))) rfl)<|RQ.nil<|then_n<|wp_ret ?_
  obtain rfl:=sj hm
  exact (ret1 rfl rfl rfl ⟨rfl,T⟩)
noncomputable def m_slices_EqualFunc_impl_Agent_SS_impl_Type_impl_Agent_impl_Type_A1:Option Bool:=
  some true
noncomputable def m_slices_EqualFunc_impl_Agent_SS_impl_Type_impl_Agent_impl_Type_B1 (d0:List DAgent) (d1:List (List DType)) (d2:DAgent→List DType→Option Bool) (rec1:Int→Option Bool) (K1:Option Bool) (i3:Int):Option Bool:=
  (bif (decide (i3 < (d0.length:Int))) then ((getI d0 i3).bind fun x6=>((getI d1 i3).bind fun x24=>((d2 x6 x24).bind fun y34=>(bif y34 then (rec1 (i3+1)) else some false)))) else (K1))
noncomputable def m_slices_EqualFunc_impl_Agent_SS_impl_Type_impl_Agent_impl_Type_L1 (d0:List DAgent) (d1:List (List DType)) (d2:DAgent→List DType→Option Bool) (K1:Option Bool):Nat→Int→Option Bool
  |0,_=>none
  |g+1,i3=>m_slices_EqualFunc_impl_Agent_SS_impl_Type_impl_Agent_impl_Type_B1 d0 d1 d2 (m_slices_EqualFunc_impl_Agent_SS_impl_Type_impl_Agent_impl_Type_L1 d0 d1 d2 K1 g) K1 i3
noncomputable def m_slices_EqualFunc_impl_Agent_SS_impl_Type_impl_Agent_impl_Type (d0:List DAgent) (d1:List (List DType)) (d2:DAgent→List DType→Option Bool):Option Bool:=
  (bif ((d0.length:Int) != (d1.length:Int)) then some false else (m_slices_EqualFunc_impl_Agent_SS_impl_Type_impl_Agent_impl_Type_L1 d0 d1 d2 m_slices_EqualFunc_impl_Agent_SS_impl_Type_impl_Agent_impl_Type_A1 (d0.length+1) 0))
set_option maxHeartbeats 2000000 in
theorem c_m_slices_EqualFunc_impl_Agent_SS_impl_Type_impl_Agent_impl_Type (d0:List DAgent) (d1:List (List DType)) (d2:DAgent→List DType→Option Bool) (r:Bool) (hm:m_slices_EqualFunc_impl_Agent_SS_impl_Type_impl_Agent_impl_Type d0 d1 d2=some r) (v0:Value) (v1:Value) (gf2:FuncId) (caps2:Array Value) (w:World) (hv0:Sl agentRd 5 w v0 d0) (hv1:Sl (slRd typeRd 3) 1 w v1 d1) (hgo2:isGo Tryz.prog gf2=true) (hf2 :∀(x0:DAgent) (x1:List DType) (b:Bool),d2 x0 x1=some b→∀w1,Below w.heap.size w w1→∀y0,St agentRd w1 y0 x0→∀y1,Sl typeRd 3 w1 y1 x1→Calls Tryz.prog gf2 (#[y0,y1] ++ caps2) w1 fun e w2=>e=.returned (.bool b)∧Below w1.heap.size w1 w2) :
    Calls Tryz.prog 155 #[v0,v1,.func (.func gf2) #[] caps2] w fun e w'=>e=.returned (.bool r)∧Below w.heap.size w w':=by
  obtain ⟨Aa0,na0,ca0,rfl,ha0,ra0⟩:=hv0
  have ea0:=ha0.len; subst ea0
  have qa0:=len_le ra0
  obtain ⟨Aa1,na1,ca1,rfl,ha1,ra1⟩:=hv1
  have ea1:=ha1.len; subst ea1
  have qa1:=len_le ra1
  have T:=Below.refl w.heap.size w
  unfold m_slices_EqualFunc_impl_Agent_SS_impl_Type_impl_Agent_impl_Type at hm
  refine enter 32 Tryz.func155 rfl rfl rfl ?_
  intro f hf
  have s0:f 0=.slice Aa0 d0.length ca0:=hf 0 _ rfl
  have s1:f 1=.slice Aa1 d1.length ca1:=hf 1 _ rfl
  have s2:f 2=.func (.func gf2) #[] caps2:=hf 2 _ rfl
  refine wp_seq<|wp_rs rfl<|RQ.y rfl (Y.assign (v:=.bool false) rfl)<|RQ.nil<|then_n<|wp_seq<|wp_seq<|wp_rs rfl<|RQ.y rfl (Y.move (v:=.slice Aa0 d0.length ca0) s0)<|RQ.y rfl (Y.len (by kernel_rfl) rfl)<|RQ.y rfl (Y.move (v:=.slice Aa1 d1.length ca1) s1)<|RQ.y rfl (Y.len (by kernel_rfl) rfl)<|RQ.y rfl (Y.binI (v:=.bool ((d0.length:Int) != (d1.length:Int))) rfl rfl rfl)<|RQ.nil<|then_n ?_
  rcases bcases ((d0.length:Int) != (d1.length:Int)) with c1|c1
  ·replace hm:=cF c1 hm
   refine cond_f rfl (vb rfl c1)<|wp_skip<|then_n<|wp_seq<|wp_seq<|wp_rs rfl<|RQ.y rfl (Y.move (v:=.slice Aa0 d0.length ca0) s0)<|RQ.y rfl (Y.len (by kernel_rfl) rfl)<|RQ.y rfl (Y.move (v:=.int .i64 0) rfl)<|RQ.nil<|then_n<|wp_block ?_
   obtain ⟨K1,hK1,hm⟩ :∃K,K=m_slices_EqualFunc_impl_Agent_SS_impl_Type_impl_Agent_impl_Type_A1∧m_slices_EqualFunc_impl_Agent_SS_impl_Type_impl_Agent_impl_Type_L1 d0 d1 d2 K (d0.length+1) 0=some r:=⟨_,rfl,hm⟩
   refine wp_loopX (fun g f w'=>∃(i3:Int),f 1=.slice Aa1 d1.length ca1∧f 2=.func (.func gf2) #[] caps2∧f 15=.slice Aa0 d0.length ca0∧f 16=.int .i64 (d0.length:Int)∧f 17=.int .i64 i3∧0≤i3∧Below w.heap.size w w'∧m_slices_EqualFunc_impl_Agent_SS_impl_Type_impl_Agent_impl_Type_L1 d0 d1 d2 K1 g i3=some r) 0 (fun f w'=>Below w.heap.size w w'∧m_slices_EqualFunc_impl_Agent_SS_impl_Type_impl_Agent_impl_Type_A1  = some r) (d0.length+1) ⟨0,s1,s2,rfl,rfl,rfl,(by omega),T,hm⟩ ?_ ?_
   ·rintro f w2 ⟨T,hm⟩
    unfold m_slices_EqualFunc_impl_Agent_SS_impl_Type_impl_Agent_impl_Type_A1 at hm
    refine blk_hit (then_n ?_)
    refine wp_seq<|wp_rs rfl<|RQ.y rfl (Y.assign (v:=.bool true) rfl)<|RQ.nil<|then_n<|wp_ret ?_
    obtain rfl:=sj hm
    exact (ret1 rfl rfl rfl ⟨rfl,T⟩)
   rintro g f w4 ⟨i3,s1_1,s2_1,s15_1,s16_1,s17_1,nn17_1,T,hm⟩
   rcases g with _|g
   ·simp only [m_slices_EqualFunc_impl_Agent_SS_impl_Type_impl_Agent_impl_Type_L1] at hm; cases hm
   obtain ⟨rec1,hrec1,hm⟩ :∃z,z=m_slices_EqualFunc_impl_Agent_SS_impl_Type_impl_Agent_impl_Type_L1 d0 d1 d2 K1 g∧m_slices_EqualFunc_impl_Agent_SS_impl_Type_impl_Agent_impl_Type_B1 d0 d1 d2 z K1 i3=some r:=⟨_,rfl,hm⟩
   unfold m_slices_EqualFunc_impl_Agent_SS_impl_Type_impl_Agent_impl_Type_B1 at hm
   refine wp_seq<|wp_rs rfl<|RQ.y rfl (Y.binI (v:=.bool (decide (i3 < (d0.length:Int)))) s17_1 s16_1 rfl)<|RQ.nil<|then_n<|wp_seq ?_
   rcases bcases (decide (i3 < (d0.length:Int))) with c5|c5
   ·replace hm:=cF c5 hm
    have pc5:=of_decide_eq_false c5
    refine cond_f rfl (vb rfl c5)<|wp_exit ?_
    exact (then_x (then_x (hit_x ⟨_,rfl,⟨T,(by rw [hK1] at hm; exact hm)⟩⟩)))
   replace hm:=cT c5 hm
   have pc5:=of_decide_eq_true c5
   refine cond_t rfl (vb rfl c5)<|wp_skip<|then_n<|wp_seq<|wp_block<|wp_seq<|wp_rl rfl<|RL.y rfl (Y.move (v:=.int .i64 i3) s17_1) ?_
   obtain ⟨x6,hx9,hm⟩:=bnd hm
   obtain ⟨k7,hk10,hl11,hx9⟩:=getI_some hx9
   obtain ⟨b13,o14,rfl,hbb13⟩:=ha0.addr (by omega)
   obtain ⟨cs8,hRcs8,hc12⟩:=ha0.el hx9
   have hScs8:=hRcs8
   obtain ⟨A15,n15,c15,A16,n16,c16,rfl,⟨h15,r15⟩,⟨h16,r16⟩⟩:=hRcs8
   have e15:=h15.len; subst e15
   have q15:=len_le r15
   have e16:=h16.len; subst e16
   have q16:=len_le r16
   refine RL.y rfl (Y.indexAddr (m:=k7) (sz:=5) s15_1 s17_1 hk10 hl11 (by kernel_rfl))<|RL.y rfl (Y.loadN (cs:=[.int .i64 x6.kind,.int .i64 x6.level,.int .i64 x6.value,.slice A15 x6.data.length c15,.slice A16 x6.ports.length c16]) rfl (by kernel_rfl) (cells5 (eqC (cellT T (hc12 0 _ rfl))) (eqC (cellT T (hc12 1 _ rfl))) (eqC (cellT T (hc12 2 _ rfl))) (eqC (cellT T (hc12 3 _ rfl))) (eqC (cellT T (hc12 4 _ rfl))))) ?_
   refine RL.alloc (z:=.agg #[.int .i64 0,.int .i64 0,.int .i64 0,.slice none 0 0,.slice none 0 0]) rfl (by kernel_rfl) (fun w17 B18 hb19 szw17=>?_)
   replace B18:Blk w17 w4.heap.size 159 #[.int .i64 0,.int .i64 0,.int .i64 0,.slice none 0 0,.slice none 0 0]:=B18
   have GB18:w.heap.size≤w4.heap.size:=T.size
   have T:=Tt T hb19
   refine RL.y rfl (Y.assign (v:=.int .i64 i3) rfl) ?_
   refine RL.store (v:=.agg #[.int .i64 x6.kind,.int .i64 x6.level,.int .i64 x6.value,.slice A15 x6.data.length c15,.slice A16 x6.ports.length c16]) (cs':=#[.int .i64 x6.kind,.int .i64 x6.level,.int .i64 x6.value,.slice A15 x6.data.length c15,.slice A16 x6.ports.length c16]) rfl rfl rfl B18 (by kernel_rfl) (by rfl) (by rfl) (by rfl) (fun w21 B22 ho23=>?_)
   have szw21:=ho23.size
   have T:=T.trans (ho23.below (by first|(simp; done)|(simp; omega)))
   refine RL.nil<|then_n<|wp_seq<|wp_rs rfl<|RQ.y rfl (Y.move (v:=.slice Aa1 d1.length ca1) s1_1)<|RQ.y rfl (Y.move (v:=.int .i64 i3) rfl) ?_
   obtain ⟨x24,hx27,hm⟩:=bnd hm
   obtain ⟨k25,hk28,hl29,hx27⟩:=getI_some hx27
   obtain ⟨b31,o32,rfl,hbb31⟩:=ha1.addr (by omega)
   obtain ⟨cs26,hRcs26,hc30⟩:=ha1.el hx27
   have hScs26:=hRcs26
   obtain ⟨A33,n33,c33,rfl,h33,r33⟩:=hRcs26
   have e33:=h33.len; subst e33
   have q33:=len_le r33
   refine RQ.y rfl (Y.indexAddr (m:=k25) (sz:=1) rfl rfl hk28 hl29 (by kernel_rfl))<|RQ.y rfl (Y.load (v:=.slice A33 x24.length c33) rfl (by kernel_rfl) (eqC (cellT T (hc30 0 _ rfl))))<|RQ.y rfl (Y.assign (v:=.slice A33 x24.length c33) rfl)<|RQ.nil<|then_n<|wp_seq<|wp_rb rfl<|RQ.y rfl (Y.move (v:=.func (.func gf2) #[] caps2) s2_1)<|RQ.y rfl (Y.loadN (cs:=[.int .i64 x6.kind,.int .i64 x6.level,.int .i64 x6.value,.slice A15 x6.data.length c15,.slice A16 x6.ports.length c16]) rfl (by kernel_rfl) (cells5 (beC (blkCell B22 (i:=0) rfl)) (beC (blkCell B22 (i:=1) rfl)) (beC (blkCell B22 (i:=2) rfl)) (beC (blkCell B22 (i:=3) rfl)) (beC (blkCell B22 (i:=4) rfl))))<|RQ.y rfl (Y.move (v:=.slice A33 x24.length c33) rfl) ?_
   obtain ⟨y34,e35,hm⟩:=bnd hm
   refine RQ.callV rfl rfl (am2 rfl rfl) hgo2 (v:=.bool y34) (bel (K:=fun _=>True) fun w' hb'=>hf2 x6 x24 y34 e35 w' (Tt T hb') _ (stArg (R:=agentRd) ⟨_,_,_,_,_,_,rfl,⟨SlAt.now intRd_ok h15 (Nat.le_refl _) (Tt T hb'),r15⟩,⟨SlAt.now portRd_ok h16 (Nat.le_refl _) (Tt T hb'),r16⟩⟩) _ (slArg typeRd_ok h33 r33 (Tt T hb')))<|RQ.y rfl (Y.not (b':=(!y34)) rfl rfl)<|RQ.nil ?_
   intro w36 hb37
   have szw36:=hb37.size
   have T:=Tt T hb37
   refine then_n ?_
   rcases bcases y34 with c38|c38
   ·replace hm:=cF c38 hm
    refine cond_t rfl (vbn rfl c38 rfl)<|wp_seq<|wp_rs rfl<|RQ.y rfl (Y.assign (v:=.bool false) rfl)<|RQ.nil<|then_n<|wp_ret ?_
    obtain rfl:=sj hm
    exact (blk_r (then_r (then_r (hit_r (blk_r (then_r (ret1 rfl rfl rfl ⟨rfl,T⟩)))))))
   replace hm:=cT c38 hm
   refine cond_f rfl (vbn rfl c38 rfl)<|wp_skip ?_
   refine blk_n (then_n ?_)
   refine wp_rs rfl<|RQ.y rfl (Y.binI s17_1 rfl (binI_add (m:=i3) (by omega)))<|RQ.y rfl (Y.move (v:=.int .i64 (i3+1)) rfl)<|RQ.nil ?_
   exact (then_n ⟨g,_,Nat.lt_succ_self _,rfl,⟨(i3+1),s1_1,s2_1,s15_1,s16_1,rfl,(by omega),T,(by rw [← hrec1]; exact hm)⟩⟩)
  replace hm:=cT c1 hm
  refine cond_t rfl (vb rfl c1)<|wp_seq<|wp_rs rfl<|RQ.y rfl (Y.assign (v:=.bool false) rfl)<|RQ.nil<|then_n<|wp_ret ?_
  obtain rfl:=sj hm
  exact (then_r (ret1 rfl rfl rfl ⟨rfl,T⟩))
noncomputable def m_impl_typesFit (d0:DTypedNet):Option Bool:=
  ((m_slices_EqualFunc_impl_Agent_SS_impl_Type_impl_Agent_impl_Type d0.net.agents d0.types (fun x0 x1=>m_impl_typesFit_1 x0 x1)).bind fun y7=>some y7)
set_option maxHeartbeats 2000000 in
theorem c_m_impl_typesFit (d0:DTypedNet) (r:Bool) (hm:m_impl_typesFit d0=some r) (v0:Value) (w:World) (hv0:St typedNetRd w v0 d0) :
    Calls Tryz.prog 97 #[v0] w fun e w'=>e=.returned (.bool r)∧Below w.heap.size w w':=by
  obtain ⟨csa0,rfl,⟨A1,n1,c1,A2,n2,c2,rfl,⟨h1,r1⟩,⟨h2,r2⟩⟩⟩:=hv0
  have e1:=h1.len; subst e1
  have q1:=len_le r1
  have e2:=h2.len; subst e2
  have q2:=len_le r2
  have T:=Below.refl w.heap.size w
  unfold m_impl_typesFit at hm
  refine enter 9 Tryz.func97 rfl rfl rfl ?_
  intro f hf
  have s0:f 0=.agg #[.slice A1 d0.net.agents.length c1,.slice A2 d0.types.length c2]:=hf 0 _ rfl
  refine wp_seq<|wp_rl rfl ?_
  refine RL.box rfl s0 (fun w3 B4 hb5 szw3=>?_)
  replace B4:Blk w3 w.heap.size 45 #[.slice A1 d0.net.agents.length c1,.slice A2 d0.types.length c2]:=B4
  have GB4:w.heap.size≤w.heap.size:=T.size
  have T:=Tt T hb5
  refine RL.y rfl (Y.assign (v:=.bool false) rfl)<|RL.nil<|then_n<|wp_seq<|wp_rb rfl<|RQ.y rfl (Y.fieldAddr (off:=0) rfl (by kernel_rfl))<|RQ.y rfl (Y.fieldAddr (off:=0) rfl (by kernel_rfl))<|RQ.y rfl (Y.load (v:=.slice A1 d0.net.agents.length c1) rfl (by kernel_rfl) (beC (blkCell B4 (i:=0) rfl)))<|RQ.y rfl (Y.fieldAddr (off:=1) rfl (by kernel_rfl))<|RQ.y rfl (Y.load (v:=.slice A2 d0.types.length c2) rfl (by kernel_rfl) (beC (blkCell B4 (i:=1) rfl))) ?_
  obtain ⟨y7,e8,hm⟩:=bnd hm
  refine RQ.call rfl (am3 rfl rfl rfl) (by kernel_rfl) (v:=.bool y7) (bel (K:=fun _=>True) fun w' hb'=>(c_m_slices_EqualFunc_impl_Agent_SS_impl_Type_impl_Agent_impl_Type d0.net.agents d0.types (fun x0 x1=>m_impl_typesFit_1 x0 x1) _ e8 _ _ _ _ w' (slArg agentRd_ok h1 r1 (Tt T hb')) (slArg (slRd_ok typeRd_ok) h2 r2 (Tt T hb')) (by kernel_rfl) (fun x0 x1 b hx w1 hb1 y0 hy0 y1 hy1=>Calls.arr (by simp) (c_m_impl_typesFit_1 x0 x1 _ hx _ _  w1 hy0 hy1 ))))<|RQ.y rfl (Y.assign (v:=.bool y7) rfl)<|RQ.nil ?_
  intro w9 hb10
  have szw9:=hb10.size
  have T:=Tt T hb10
  refine then_n<|wp_ret ?_
  obtain rfl:=sj hm
  exact (ret1 rfl rfl rfl ⟨rfl,T⟩)
end
section
open Go.RowKit Go.Shelf
attribute [local go_sem] Oper.semAt_some
instance:Inhabited TC:=⟨⟨0,ByteArray.empty,none,0,0⟩⟩
def upto {α:Type} (f:Nat→α) (k:Nat):List α:=(List.range k).map f
theorem upto_succ {α:Type} (f:Nat→α) (k:Nat):upto f (k+1)=upto f k ++ [f k]:=by simp [upto,List.range_succ]
theorem upto_length {α:Type} (f:Nat→α) (k:Nat):(upto f k).length=k:=by simp [upto]
/-- What a round keeps: what lay below n₀, and the slice's box. -/
def KpB (n₀ Bs:Nat) (A B:World):Prop:=Below n₀ A B∧B.heap[Bs]? = A.heap[Bs]?
def backF (tcs:List TC) (j:Nat):Nat × TC:=(tcs.length - 1 - j,tcs.getD (tcs.length - 1 - j) default)
set_option maxRecDepth 100000 in
set_option maxHeartbeats 2000000 in
theorem back1_in (n:Nat) (hn:1≤n) (l Bs n₀:Nat) (A:Option Addr) (c:Nat) (tcs:List TC) (hlen:tcs.length≤9223372036854775807) (J Jx:List (Nat × TC)→World→Prop)
    (hY :∀pre x W1,J pre W1→pre.length < tcs.length→YieldAt Fence.wide (n - 1) Tryz.prog l #[.int .i64 (x.1:Int),x.2.val] W1 fun e W'=>
      (e=.returned (.bool true)∧J (pre ++ [x]) W'∧KpB n₀ Bs W1 W') ∨ (e=.returned (.bool false)∧Jx (pre ++ [x]) W'))
    (W:World) (hBs:W.cell? ⟨Bs,0,none⟩=some (.slice A tcs.length c))
    (hA:0 < tcs.length→∃b o,A=some ⟨b,o,none⟩∧b < n₀∧∀k,k < tcs.length→W.cell? ⟨b,o+k * 3,none⟩=some (.int .i64 (tcs.getD k default).k)∧W.cell? ⟨b,o+k * 3+1,none⟩=some (.string (tcs.getD k default).n)∧W.cell? ⟨b,o+k * 3+2,none⟩=some (.slice (tcs.getD k default).A (tcs.getD k default).m (tcs.getD k default).c)) (h0:J [] W) :
    CallsIn Fence.wide n Tryz.prog 246 #[.func (.yield l) #[] #[],.pointer (some ⟨Bs,0,none⟩)] W fun e W'=>(∃v,e=.returned v)∧
      ((∃ys,ys=upto (backF tcs) tcs.length∧J ys W') ∨ (∃pre,True∧Jx pre W')):=by
  refine callsIn_of_wp Tryz.func246 rfl trivial ?_ rfl
  simp only [Tryz.ntmps246,List.size_toArray,List.length_cons,List.length_nil,Nat.reduceAdd,Nat.reduceSub,Array.replicate_succ,Array.replicate_zero,List.push_toArray,List.append_toArray,List.nil_append,List.cons_append]
  gi_wp2
  gi_loopw [3] (fun i wr=>∃k:Nat,k≤tcs.length∧i=.int .i64 ((tcs.length:Int) - 1 - k)∧J (upto (backF tcs) k) wr∧KpB n₀ Bs W wr)
    (fun i _=>(intOf i+1).toNat)
  case atStart=>exact ⟨0,Nat.zero_le _,by simp,h0,Below.refl _ _,rfl⟩
  case round=>
    obtain ⟨k,hk,rfl,hJs,hnx,hnb⟩:=hrel
    have hBs2:wr.cell? ⟨Bs,0,none⟩=some (.slice A tcs.length c):=(World.cell?_of_block (a:=⟨Bs,0,none⟩) hnb).trans hBs
    by_cases hlt:k < tcs.length
    · obtain ⟨b,o,rfl,hb,hcs⟩:=hA (by omega)
      obtain ⟨m,hm⟩ :∃m,m=tcs.length - 1 - k:=⟨_,rfl⟩
      have hmi:(tcs.length:Int) - 1 - k=(m:Int):=by omega
      obtain ⟨x,hx⟩ :∃x,x=backF tcs k:=⟨_,rfl⟩
      obtain ⟨hc0,hc1,hc2⟩:=hcs m (by omega)
      have hc0:=(hnx.cell (p:=⟨b,o+m * 3,none⟩) hb).trans hc0
      have hc1:=(hnx.cell (p:=⟨b,o+m * 3+1,none⟩) hb).trans hc1
      have hc2:=(hnx.cell (p:=⟨b,o+m * 3+2,none⟩) hb).trans hc2
      obtain ⟨fn,tmps,assign,body,hy,hR⟩:=hY _ (m,tcs.getD m default) wr hJs (by rw [upto_length]; exact hlt)
      rw [show (m,tcs.getD m default)=backF tcs k by unfold backF; rw [hm],← upto_succ] at hR
      dsimp only [TC.val] at hy
      rw [hmi]
      have hml:m < tcs.length:=by omega
      generalize tcs.getD m default=tc at *
      have HM:=Lib.hid hm
      have HL:=Lib.hid hml
      clear hcs hY hA hm hx hmi
      gi_wp2
      refine hR.mono ?_
      rintro e W3 (⟨rfl,hJ3,hk3,hb3⟩|⟨rfl,hJx3⟩)
      · gi_wp2
        go_roundw
        case rel=>exact ⟨k+1,by omega,by have:=HM.out; first|(congr 1; omega)|congr 1,hJ3,hnx.trans hk3,hb3.trans hnb⟩
        case measure=>have:=HM.out; first|(simp [intOf]; done)|(simp [intOf]; omega)
      · gi_wp2
        refine bodyPost_ret (results_none rfl _ _ _) rfl ?_
        exact ⟨⟨_,rfl⟩,.inr ⟨_,trivial,hJx3⟩⟩
    · obtain rfl:k=tcs.length:=by omega
      gi_wp2
      go_end0
      exact ⟨⟨_,rfl⟩,.inl ⟨_,rfl,hJs⟩⟩
set_option maxHeartbeats 1000000 in
theorem back_in (n:Nat) (A:Option Addr) (len cap:Nat) (w:World) :
    CallsIn Fence.wide n Tryz.prog 212 #[.slice A len cap] w fun e w'=>e=.returned (.func (.func 246) #[] #[.pointer (some ⟨w.heap.size,0,none⟩)])∧w'=w.alloc (.cells #[.slice A len cap] 36):=by
  refine callsIn_of_wp Tryz.func212 rfl trivial ?_ rfl
  simp only [Tryz.ntmps212,List.size_toArray,List.length_cons,List.length_nil,Nat.reduceAdd,Nat.reduceSub,Array.replicate_succ,Array.replicate_zero,List.push_toArray,List.append_toArray,List.nil_append,List.cons_append]
  gi_wp2
  go_ret
  exact ⟨rfl,rfl⟩
/-- Where the cells of the elements lie. -/
def CellsAt (n₀:Nat) (A:Option Addr) (tcs:List TC) (W:World):Prop:=
  0 < tcs.length→∃b o,A=some ⟨b,o,none⟩∧b < n₀∧∀k,k < tcs.length→W.cell? ⟨b,o+k * 3,none⟩=some (.int .i64 (tcs.getD k default).k)∧W.cell? ⟨b,o+k * 3+1,none⟩=some (.string (tcs.getD k default).n)∧W.cell? ⟨b,o+k * 3+2,none⟩=some (.slice (tcs.getD k default).A (tcs.getD k default).m (tcs.getD k default).c)
theorem CellsAt.below {n₀:Nat} {A:Option Addr} {tcs:List TC} {W W':World} (h:CellsAt n₀ A tcs W) (T:Below n₀ W W'):CellsAt n₀ A tcs W':=fun h0=>by
  obtain ⟨b,o,e,hb,hc⟩:=h h0
  exact ⟨b,o,e,hb,fun k hk=>⟨(T.cell (p:=⟨b,o+k * 3,none⟩) hb).trans (hc k hk).1,(T.cell (p:=⟨b,o+k * 3+1,none⟩) hb).trans (hc k hk).2.1,(T.cell (p:=⟨b,o+k * 3+2,none⟩) hb).trans (hc k hk).2.2⟩⟩
theorem back_stops (n:Nat) (hn:1≤n) (Bs n₀:Nat) (A:Option Addr) (c:Nat) (tcs:List TC) (hlen:tcs.length≤9223372036854775807) (w:World) (hBs:Bs < w.heap.size) (hn₀:n₀≤w.heap.size) (hcB:w.cell? ⟨Bs,0,none⟩=some (.slice A tcs.length c)) (hA:CellsAt n₀ A tcs w) :
    SeqStopsK Fence.wide n Tryz.prog 246 #[.pointer (some ⟨Bs,0,none⟩)] (fun x:Nat × TC=>#[Value.int .i64 (x.1:Int),x.2.val]) (KpB n₀ Bs) (fun ys=>ys=upto (backF tcs) tcs.length) (fun _=>True) tcs.length w:=fun l J Jx W hW _ _ hY h0=>
  back1_in n hn l Bs n₀ A c tcs hlen J Jx hY W ((hW.cell (p:=⟨Bs,0,none⟩) hBs).trans hcB) (hA.below (hW.mono hn₀)) h0
/-- A chain of function types over cells alone. -/
def RawCh (e:TypeId) (lo:Nat) (w:World) (q:TC):List TC→TC→Prop
  |[],v=>v=q
  |f :: fs,v=>∃(g:Nat) (v':TC),v=TC.fn g∧lo≤g∧Blk w g e (f.cells ++ v'.cells).toArray∧RawCh e lo w q fs v'
theorem RawCh.keep {e:TypeId} {lo:Nat} {w w':World} {q:TC} (h :∀g t cs,lo≤g→Blk w g t cs→Blk w' g t cs) :∀{xs:List TC} {v:TC},RawCh e lo w q xs v→RawCh e lo w' q xs v
  |[],_,hv=>hv
  |x :: xs,v,⟨g,v',e1,h1,B,hr⟩=>⟨g,v',e1,h1,h _ _ _ h1 B,RawCh.keep h hr⟩
theorem RawCh.ch {e:TypeId} {lo:Nat} {w0 w:World} {q:TC} :∀{fs:List TC} {xs:List DType} {v:TC},fs.length=xs.length→(∀(k:Nat) f x,fs[k]? = some f→xs[k]? = some x→typeRd w0 w0.heap.size f.cells x)→RawCh e lo w q fs v→FunCh e lo w0 w q xs v
  |[],[],v,_,_,h=>h
  |f :: fs,x :: xs,v,hl,hR,⟨g,v',e1,h1,B,hr⟩=>⟨f,g,v',e1,h1,B,hR 0 f x rfl rfl,RawCh.ch (by simpa using hl) (fun k f x h1 h2=>hR (k+1) f x (by simpa using h1) (by simpa using h2)) hr⟩
  |[],_ :: _,_,hl,_,_=>by simp at hl
  |_ :: _,[],_,hl,_,_=>by simp at hl
theorem Blk.own {W W':World} {row:Option Nat} {g:Nat} {t:TypeId} {cs:Array Value} (B:Blk W g t cs) (hg:W.grownBy W' row) (hr :∀r,row=some r→∃o:Obj,W.heap[r]? = some o∧o.isCells=false):Blk W' g t cs:=
  (hg.block g B.lt (fun e=>by
    obtain ⟨o,h1,h2⟩:=hr g e.symm
    have h3:W.heap[g]? = some (.cells cs t (0,0)):=B
    rw [h3] at h1
    injection h1 with h1
    subst h1
    cases h2)).trans B
theorem backF_rev (tcs:List TC):((upto (backF tcs) tcs.length).map (·.2)).reverse=tcs:=by
  apply List.ext_getElem
  · simp [upto]
  · intro i h1 h2
    simp [upto,backF,List.getD]
    have e:tcs.length - 1 - (tcs.length - 1 - i)=i:=by omega
    simp [e,h2]
theorem Blk.setCell {W:World} {B:Nat} {t:TypeId} {cs:Array Value} (h:Blk W B t cs) (i:Nat) (u:Value):Blk (W.setCell ⟨B,i,none⟩ u) B t (cs.setIfInBounds i u):=by
  obtain ⟨hlt,hk⟩:=Array.getElem?_eq_some_iff.1 h
  show (W.heap.modify B _)[B]? = _
  rw [Array.getElem?_eq_getElem (by rw [Array.size_modify]; exact hlt),Array.getElem_modify_self,hk]
  rfl
theorem set3K {W:World} {b k:Nat} {u0 u1 u2:Value} (h:k ≠ b):(((W.setCell ⟨b,0,none⟩ u0).setCell ⟨b,1,none⟩ u1).setCell ⟨b,2,none⟩ u2).heap[k]? = W.heap[k]?:=by
  rw [Below.heap_setCell _ ⟨b,2,none⟩ _ _ h,Below.heap_setCell _ ⟨b,1,none⟩ _ _ h,Below.heap_setCell _ ⟨b,0,none⟩ _ _ h]
theorem results_cellC {fn:Func} {tmps:Array Value} {t:Tmp} {b:Nat} {ty:TypeId} {cs:List Value} {P:Program} {w:World} (hr:fn.results = #[.cell t ty]) (hv:tmps[t]?.getD undef=.pointer (some ⟨b,0,none⟩)) (hag:aggO P ty=some cs.length)
    (hc :∀j v,cs[j]? = some v→w.cell? ⟨b,0+j,none⟩=some v):(results fn tmps).run P w=.ok (.agg cs.toArray) w:=by
  have hl:=run_loadN (P:=P) (w:=w) hag hc
  simp only [Instr.loadAt,Instr.sureAddr,Sem.run_bind,Sem.run_pure,Result.andThen_ok,bind_pure_comp,pure_bind] at hl
  simp only [results,hr]
  simp [hv,asAddr,hl]
set_option maxRecDepth 100000 in
set_option maxHeartbeats 2000000 in
theorem fields_in (A:Option Addr) (c:Nat) (tcs:List TC) (q:TC) (hlen:tcs.length≤9223372036854775807) (w:World) (hA:CellsAt w.heap.size A tcs w) :
    CallsIn Fence.wide 3 Tryz.prog 165 #[.slice A tcs.length c,.agg #[.int .i64 q.k,.string q.n,.slice q.A q.m q.c]] w fun e W'=>∃v:TC,e=.returned v.val∧RawCh 114 (w.heap.size+2) W' q tcs v∧Below w.heap.size w W':=by
  refine callsIn_of_wp_marks Tryz.func165 rfl trivial ?_ rfl
  simp only [Tryz.ntmps165,List.size_toArray,List.length_cons,List.length_nil,Nat.reduceAdd,Nat.reduceSub,Array.replicate_succ,Array.replicate_zero,List.push_toArray,List.append_toArray,List.nil_append,List.cons_append]
  gi_wp2_with (refine ⟨trivial,?_⟩; gi_at_call 212; refine (back_in _ _ _ _ _).mono ?_; rintro e w' ⟨rfl,rfl⟩)
  obtain ⟨o1,ho1⟩ :∃o1,o1=Obj.cells #[.int .i64 q.k,.string q.n,.slice q.A q.m q.c] 114:=⟨_,rfl⟩
  obtain ⟨o2,ho2⟩ :∃o2,o2=Obj.cells #[.int .i64 0,.string ⟨#[]⟩,.slice none 0 0] 114:=⟨_,rfl⟩
  obtain ⟨o3,ho3⟩ :∃o3,o3=Obj.cells #[.slice A tcs.length c] 36:=⟨_,rfl⟩
  rw [← ho1,← ho2,← ho3]
  have b3:Blk (((w.alloc o1).alloc o2).alloc o3) w.heap.size 114 q.cells.toArray:=by subst ho1; exact ((Blk.new w 114 q.cells.toArray).alloc o2).alloc o3
  have b4:Blk (((w.alloc o1).alloc o2).alloc o3) (w.heap.size+1) 114 #[.int .i64 0,.string ⟨#[]⟩,.slice none 0 0]:=by subst ho2; have:=(Blk.new (w.alloc o1) 114 #[.int .i64 0,.string ⟨#[]⟩,.slice none 0 0]).alloc o3; rwa [World.size_alloc] at this
  have b5:Blk (((w.alloc o1).alloc o2).alloc o3) (w.heap.size+1+1) 36 #[.slice A tcs.length c]:=by subst ho3; have:=Blk.new ((w.alloc o1).alloc o2) 36 #[.slice A tcs.length c]; rwa [World.size_alloc,World.size_alloc] at this
  have T0:Below w.heap.size w (((w.alloc o1).alloc o2).alloc o3):=(((Below.refl _ w).alloc (Nat.le_refl _) _).alloc (by simp) _).alloc (by simp; omega) _
  have hsz:(((w.alloc o1).alloc o2).alloc o3).heap.size=w.heap.size+3:=by simp
  obtain ⟨W0,hW0⟩ :∃W0,((w.alloc o1).alloc o2).alloc o3=W0:=⟨_,rfl⟩
  rw [hW0] at b3 b4 b5 T0 hsz ⊢
  clear hW0 ho1 ho2 ho3
  refine wpIn_rangeFunc_ownH (α:=Nat × TC) rfl (by decide) (gf:=246) (lb:=#[.pointer (some ⟨w.heap.size+1+1,0,none⟩)]) rfl trivial (enters_of Tryz.func246 (by kernel_rfl) rfl)
    (back_stops 2 (by decide) (w.heap.size+1+1) w.heap.size A c tcs hlen W0 (by omega) (by omega) (b5.cell 0) (hA.below T0)) (fun h k=>⟨h.1.trans k.1,k.2.trans h.2⟩)
    (fun W l o o' hl ho hc hk=>⟨belowK_b (w:=W0) (by omega) W l o o' hl ho hc hk,World.putObj_heap_other (by omega)⟩) (Below.refl _ _) (fun _=>rfl)
    (fun pre W=>∃v:TC,Blk W w.heap.size 114 v.cells.toArray∧Blk W (w.heap.size+1) 114 #[.int .i64 0,.string ⟨#[]⟩,.slice none 0 0]∧RawCh 114 (w.heap.size+2) W q (pre.map (·.2)).reverse v∧Below w.heap.size w W∧W0.heap.size≤W.heap.size)
    (fun _ _ _=>False)
    (fun s A B row hs hg hr=>by
      obtain ⟨v,h1,h2,h3,h4,h5⟩:=hs
      exact ⟨v,h1.own hg (fun r e=>(hr r e).2),h2.own hg (fun r e=>(hr r e).2),h3.keep (fun g t cs _ B=>B.own hg (fun r e=>(hr r e).2)),ownFrom_below (β:=Unit) (Nat.le_refl _) (by omega) () A B row h4 hg hr,Nat.le_trans h5 hg.size⟩)
    (fun _ _ _ _ _ hs _ _=>hs)
    ⟨q,b3,b4,rfl,T0,Nat.le_refl _⟩
    (fun x a' W=>∃Bx,w.heap.size+2≤Bx∧Blk W Bx 114 x.2.cells.toArray∧a' = { tmps:=#[.slice A tcs.length c,.agg #[.int .i64 q.k,.string q.n,.slice q.A q.m q.c],undef,.pointer (some ⟨w.heap.size,0,none⟩),.pointer (some ⟨w.heap.size+1,0,none⟩),undef,.pointer (some ⟨Bx,0,none⟩),.slice A tcs.length c,.func (.func 246) #[] #[.pointer (some ⟨w.heap.size+1+1,0,none⟩)],.int .i64 (x.1:Int),x.2.val,undef,undef,undef,undef],defers:=[] })
    (fun x a' s A B row hs hg hr=>by obtain ⟨Bx,h1,h2,h3⟩:=hs; exact ⟨Bx,h1,h2.own hg (fun r e=>(hr r e).2),h3⟩) ?assign ?body ?done ?stop
  case assign=>
    rintro l pre x W K ⟨v,h1,h2,h3,h4,h5⟩ hK
    unfold TC.val
    gi_wp2
    exact hK _ _ ((KeepsOthers.alloc _ _).from _) ⟨(Below.refl _ W).alloc (by omega) _,Below.heap_alloc W _ _ (by omega)⟩ ⟨v,h1.alloc _,h2.alloc _,h3.keep (fun g t cs _ B=>B.alloc _),h4.alloc (by omega) _,by simp; omega⟩ ⟨W.heap.size,by omega,Blk.new W _ _,rfl⟩
  case body=>
    rintro l pre x a' W hl ⟨r,hr⟩ ⟨v,h1,h2,h3,h4,h5⟩ ⟨Bx,hBx,hX,rfl⟩ hlt
    have g10:W.cell? ⟨w.heap.size,0,none⟩=some (.int .i64 v.k):=h1.cell 0
    have g11:W.cell? ⟨w.heap.size,1,none⟩=some (.string v.n):=h1.cell 1
    have g12:W.cell? ⟨w.heap.size,2,none⟩=some (.slice v.A v.m v.c):=h1.cell 2
    have gX0:W.cell? ⟨Bx,0,none⟩=some (.int .i64 x.2.k):=hX.cell 0
    have gX1:W.cell? ⟨Bx,1,none⟩=some (.string x.2.n):=hX.cell 1
    have gX2:W.cell? ⟨Bx,2,none⟩=some (.slice x.2.A x.2.m x.2.c):=hX.cell 2
    have hn1:1≤3 - 1 - 1:=by decide
    unfold TC.val
    gi_wp2_with (refine ⟨trivial,?_⟩; gi_at_call 158; refine (CallsIn.inRound l (callsIn_wide.2 (raw_funType x.2 v W))).mono ?_; rintro e w6 ⟨gn,he,hgn,Bn,hb6⟩; simp only [TC.fn,TC.val] at he; subst he; have B6:=blkT h1 hb6; have c0:=B6.cell 0; have c1:=B6.cell 1; have c2:=B6.cell 2; have f6:=B6.frozen; simp only [TC.cells,TC.fn,TC.val] at c0 c1 c2)
    have hk6 :∀k,k < W.heap.size→w6.heap[k]? = W.heap[k]?:=fun k hk=>hb6.block k hk
    have hb6':=hb6.mono h4.size
    have z6:=hb6.size
    refine ⟨⟨by simp [World.setCell]; exact z6,fun k o hB hk ho=>(set3K (by omega)).trans ((hk6 k (Array.getElem?_eq_some_iff.1 hk).1).trans hk)⟩,
      ⟨((hb6'.setCell (p:=⟨w.heap.size,0,none⟩) (Nat.le_refl _) _).setCell (p:=⟨w.heap.size,1,none⟩) (Nat.le_refl _) _).setCell (p:=⟨w.heap.size,2,none⟩) (Nat.le_refl _) _,(set3K (by omega)).trans (hk6 _ (by omega))⟩,
      TC.fn gn,((B6.setCell 0 _).setCell 1 _).setCell 2 _,(set3K (by omega)).trans ((hk6 _ h2.lt).trans h2),?_,((h4.trans hb6').setCell (p:=⟨w.heap.size,0,none⟩) (Nat.le_refl _) _).setCell (p:=⟨w.heap.size,1,none⟩) (Nat.le_refl _) _|>.setCell (p:=⟨w.heap.size,2,none⟩) (Nat.le_refl _) _,by simp [World.setCell]; omega⟩
    rw [List.map_append,List.reverse_append]
    exact ⟨gn,v,rfl,by omega,(set3K (by omega)).trans Bn,h3.keep (fun g t cs hg B=>(set3K (by omega)).trans ((hk6 _ B.lt).trans B))⟩
  case done=>
    rintro D xs W hD rfl ⟨v,h1,h2,h3,h4,h5⟩ hK
    have g10:W.cell? ⟨w.heap.size,0,none⟩=some (.int .i64 v.k):=h1.cell 0
    have g11:W.cell? ⟨w.heap.size,1,none⟩=some (.string v.n):=h1.cell 1
    have g12:W.cell? ⟨w.heap.size,2,none⟩=some (.slice v.A v.m v.c):=h1.cell 2
    have g20:W.cell? ⟨w.heap.size+1,0,none⟩=some (.int .i64 0):=h2.cell 0
    have g21:W.cell? ⟨w.heap.size+1,1,none⟩=some (.string ⟨#[]⟩):=h2.cell 1
    have g22:W.cell? ⟨w.heap.size+1,2,none⟩=some (.slice none 0 0):=h2.cell 2
    have f2:=h2.frozen
    gi_wp2
    have hDw:D ≠ w.heap.size+1:=by omega
    refine ⟨by simp,.inl ⟨_,_,rfl,run_takeDeferred ((set3K hDw).trans hK),?_⟩⟩
    have B7:Blk ((((W.setCell ⟨w.heap.size+1,0,none⟩ (.int .i64 v.k)).setCell ⟨w.heap.size+1,1,none⟩ (.string v.n)).setCell ⟨w.heap.size+1,2,none⟩ (.slice v.A v.m v.c)).putObj D (.deferred none)) (w.heap.size+1) 114 v.cells.toArray:=(World.putObj_heap_other (by omega)).trans (((h2.setCell 0 _).setCell 1 _).setCell 2 _)
    have z7:=(Array.getElem?_eq_some_iff.1 hK).1
    rw [backF_rev] at h3
    refine ⟨_,results_cellC (cs:=v.cells) rfl rfl (by kernel_rfl) (blkCells B7),v,rfl,h3.keep (fun g t cs hg B=>?_),?_⟩
    · have hgD:g ≠ D:=fun e=>by
        subst e
        have h9:W.heap[g]? = some (.cells cs t (0,0)):=B
        rw [hK] at h9; cases h9
      exact (World.putObj_heap_other hgD).trans ((set3K (by omega)).trans B)
    · refine (((h4.setCell (p:=⟨w.heap.size+1,0,none⟩) (Nat.le_succ _) (.int .i64 v.k)).setCell (p:=⟨w.heap.size+1,1,none⟩) (Nat.le_succ _) (.string v.n)).setCell (p:=⟨w.heap.size+1,2,none⟩) (Nat.le_succ _) (.slice v.A v.m v.c)).trans ?_
      exact belowK_b (w:=W0) (by omega) _ D (.deferred (some [])) _ (by omega) ((set3K hDw).trans hK) rfl rfl
  case stop=>
    rintro D c pre W _ _ h _
    exact h.elim
/-- The cells of the elements of a slice of types. -/
theorem tcs_of {w:World} {B:Nat} {A:Option Addr} {ds:List DType} (h:SlAt typeRd 3 w B A ds.length ds) :∃tcs:List TC,tcs.length=ds.length∧CellsAt B A tcs w∧∀(k:Nat) f x,tcs[k]? = some f→ds[k]? = some x→typeRd w B f.cells x:=by
  have hex :∀k:Nat,∃f:TC,∀x,ds[k]? = some x→∃b o,A=some ⟨b,o,none⟩∧b < B∧typeRd w B f.cells x∧∀j v,f.cells[j]? = some v→w.cell? ⟨b,o+k * 3+j,none⟩=some v:=fun k=>by
    by_cases hk:k < ds.length
    · obtain ⟨b,o,e,hb,hs⟩:=h.2 (by omega)
      obtain ⟨cs,hR,hc⟩:=hs k ds[k] (List.getElem?_eq_getElem hk)
      have hR2:=hR
      obtain ⟨A1,n1,c1,rfl,h1,r1⟩:=typeRd_out hR2
      refine ⟨⟨ds[k].kind,ds[k].name,A1,n1,c1⟩,fun x hx=>?_⟩
      rw [List.getElem?_eq_getElem hk] at hx
      injection hx with hx
      subst hx
      exact ⟨b,o,e,hb,hR,hc⟩
    · exact ⟨default,fun x hx=>by rw [List.getElem?_eq_none (by omega)] at hx; cases hx⟩
  obtain ⟨F,hF⟩:=Classical.axiomOfChoice hex
  refine ⟨(List.range ds.length).map F,by simp,fun h0=>?_,fun k f x hf hx=>?_⟩
  · have h0':0 < ds.length:=by simpa using h0
    obtain ⟨b,o,e,hb,_⟩:=hF 0 _ (List.getElem?_eq_getElem h0')
    refine ⟨b,o,e,hb,fun k hk=>?_⟩
    have hk':k < ds.length:=by simpa using hk
    obtain ⟨b',o',e',_,_,hc⟩:=hF k _ (List.getElem?_eq_getElem hk')
    rw [e] at e'
    injection e' with e'
    injection e' with e1 e2
    subst e1 e2
    have hg:((List.range ds.length).map F).getD k default=F k:=by simp [List.getD,hk']
    rw [hg]
    exact ⟨hc 0 _ rfl,hc 1 _ rfl,hc 2 _ rfl⟩
  · have hk:k < ds.length:=by
      rcases Nat.lt_or_ge k ds.length with h1|h1
      · exact h1
      · rw [List.getElem?_eq_none (by omega)] at hx; cases hx
    obtain ⟨b,o,_,_,hR,_⟩:=hF k x hx
    have:f=F k:=by simpa [hk] using hf.symm
    rw [this]; exact hR
def fieldsM (ds:List DType) (q:DType):Option DType:=some (funD ds q)
theorem c_fieldsM (ds:List DType) (q r:DType) (hm:fieldsM ds q=some r) (v0 v1:Value) (w:World) (hv0:Sl typeRd 3 w v0 ds) (hv1:St typeRd w v1 q) :
    Calls Tryz.prog 165 #[v0,v1] w fun e w'=>(∃(v0:Value),e=.returned v0∧St typeRd w' v0 r)∧Below w.heap.size w w':=by
  obtain ⟨A0,n0,c0,rfl,h0,r0⟩:=hv0
  have e0:=h0.len; subst e0
  have q0:=len_le r0
  obtain ⟨csb,rfl,hRb⟩:=hv1
  have hSb:=hRb
  obtain ⟨A1,n1,c1,rfl,h1,r1⟩:=typeRd_out hSb
  obtain rfl:=sj hm
  obtain ⟨tcs,hl,hA,hR⟩:=tcs_of h0
  have hc:=fields_in A0 c0 tcs ⟨q.kind,q.name,A1,n1,c1⟩ (by omega) w hA
  rw [hl] at hc
  refine (callsIn_wide.1 hc).mono ?_
  rintro e w' ⟨v,rfl,hch,T⟩
  exact ⟨⟨_,rfl,⟨v.cells,rfl,(hch.ch hl hR).read hRb T⟩⟩,T⟩
end
end Go.Proofs.YtpbobilkejblgaaGreat
