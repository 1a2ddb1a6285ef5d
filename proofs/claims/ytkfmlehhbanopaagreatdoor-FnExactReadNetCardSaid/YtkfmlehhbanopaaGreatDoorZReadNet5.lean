/- Lemmas of the proof of ReadNet, part 5. No condition. -/
import Derived.Test.YtkfmlehhbanopaaGreatDoorZReadNet4
namespace Go.Proofs.YtkfmlehhbanopaaGreatDoor
set_option linter.unusedVariables false
set_option linter.unusedSimpArgs false
section
open Go.RowKit
set_option maxRecDepth 100000
def m_spec_l01Digit (d0:Int):Option Bool:=
  (bif (decide (d0 ≥ 48)) then some (decide (d0≤57)) else some false)
set_option maxHeartbeats 2000000 in
theorem c_m_spec_l01Digit (d0:Int) (r:Bool) (hm:m_spec_l01Digit d0=some r)  (w:World)  :
    Calls Tryz.prog 80 #[.int .u8 d0] w fun e w'=>e=.returned (.bool r)∧Below w.heap.size w w':=by
  have T:=Below.refl w.heap.size w
  unfold m_spec_l01Digit at hm
  refine enter 9 Tryz.func80 rfl rfl rfl ?_
  intro f hf
  have s0:f 0=.int .u8 d0:=hf 0 _ rfl
  refine wp_seq<|wp_rs rfl<|RQ.y rfl (Y.assign (v:=.bool false) rfl)<|RQ.nil<|then_n<|wp_seq<|wp_rs rfl<|RQ.y rfl (Y.move (v:=.int .u8 d0) s0)<|RQ.y rfl (Y.binI (v:=.bool (decide (d0 ≥ 48))) rfl rfl rfl)<|RQ.y rfl (Y.move (v:=.bool (decide (d0 ≥ 48))) rfl) ?_
  rcases bcases (decide (d0 ≥ 48)) with c1|c1
  ·replace hm:=cF c1 hm
   have pc1:=of_decide_eq_false c1
   refine RQ.skip (wantN (dj:=5) rfl (vb rfl c1) rfl)<|RQ.skip (wantN (dj:=5) rfl (vb rfl c1) rfl)<|RQ.y rfl (Y.pick (b:=false) (v:=.bool false) (vb rfl c1) rfl)<|RQ.y rfl (Y.assign (v:=.bool false) rfl)<|RQ.nil<|then_n<|wp_ret ?_
   obtain rfl:=sj hm
   exact (ret1 rfl rfl rfl ⟨rfl,T⟩)
  replace hm:=cT c1 hm
  have pc1:=of_decide_eq_true c1
  refine RQ.y (wantT (dj:=5) rfl (vb rfl c1)) (Y.move (v:=.int .u8 d0) s0)<|RQ.y (wantT (dj:=5) rfl (vb rfl c1)) (Y.binI (v:=.bool (decide (d0≤57))) rfl rfl rfl)<|RQ.y rfl (Y.pick (b:=true) (v:=.bool (decide (d0≤57))) (vb rfl c1) rfl)<|RQ.y rfl (Y.assign (v:=.bool (decide (d0≤57))) rfl)<|RQ.nil<|then_n<|wp_ret ?_
  obtain rfl:=sj hm
  exact (ret1 rfl rfl rfl ⟨rfl,T⟩)
def m_spec_ReadDecimal_A1 (d0:ByteArray) (i3:Int):Option (Int × Bool):=
  ((getB d0 0).bind fun x5=>(bif (x5==45) then ((negI i3).bind fun s16=>(bif (inR s16 (-2147483648) 2147483647) then ((m_spec_Decimal s16).bind fun y21=>(bif (y21.toList==d0.toList) then some (s16,true) else some (0,false))) else some (0,false))) else (bif (inR i3 (-2147483648) 2147483647) then ((m_spec_Decimal i3).bind fun y11=>(bif (y11.toList==d0.toList) then some (i3,true) else some (0,false))) else some (0,false))))
def m_spec_ReadDecimal_B1 (d0:ByteArray) (rec1:Int→Int→Option (Int × Bool)) (K1:Int→Option (Int × Bool)) (i26:Int) (i27:Int):Option (Int × Bool):=
  (bif (decide (i27 < (d0.size:Int))) then (bif (i27==0) then ((getB d0 i27).bind fun x45=>(bif (x45==45) then ((ck (i27+1)).bind fun s62=>(rec1 i26 s62)) else ((getB d0 i27).bind fun x48=>((m_spec_l01Digit x48).bind fun y50=>(bif y50 then ((ck (i26 * 10)).bind fun s55=>((getB d0 i27).bind fun x56=>((ck (u8w (x56 - 48))).bind fun s58=>((ck (s55+s58)).bind fun s60=>((ck (i27+1)).bind fun s61=>(rec1 s60 s61)))))) else some (0,false)))))) else ((getB d0 i27).bind fun x31=>((m_spec_l01Digit x31).bind fun y33=>(bif y33 then ((ck (i26 * 10)).bind fun s38=>((getB d0 i27).bind fun x39=>((ck (u8w (x39 - 48))).bind fun s41=>((ck (s38+s41)).bind fun s43=>((ck (i27+1)).bind fun s44=>(rec1 s43 s44)))))) else some (0,false))))) else (K1 i26))
def m_spec_ReadDecimal_L1 (d0:ByteArray) (K1:Int→Option (Int × Bool)):Nat→Int→Int→Option (Int × Bool)
  |0,_,_=>none
  |g+1,i26,i27=>m_spec_ReadDecimal_B1 d0 (m_spec_ReadDecimal_L1 d0 K1 g) K1 i26 i27
def m_spec_ReadDecimal (d0:ByteArray):Option (Int × Bool):=
  (bif (decide ((d0.size:Int) < 1)) then some (0,false) else (bif (decide ((d0.size:Int) > 11)) then some (0,false) else (m_spec_ReadDecimal_L1 d0 (m_spec_ReadDecimal_A1 d0) (d0.size+1) 0 0)))
set_option maxHeartbeats 2000000 in
theorem c_m_spec_ReadDecimal (d0:ByteArray) (r:Int × Bool) (hm:m_spec_ReadDecimal d0=some r)  (w:World)  :
    Calls Tryz.prog 42 #[.string d0] w fun e w'=>e=.returned (.tuple #[.int .i64 r.1,.bool r.2])∧Below w.heap.size w w':=by
  have T:=Below.refl w.heap.size w
  unfold m_spec_ReadDecimal at hm
  refine enter 56 Tryz.func42 rfl rfl rfl ?_
  intro f hf
  have s0:f 0=.string d0:=hf 0 _ rfl
  refine wp_seq<|wp_rs rfl<|RQ.y rfl (Y.assign (v:=.int .i64 0) rfl)<|RQ.y rfl (Y.assign (v:=.bool false) rfl)<|RQ.nil<|then_n<|wp_seq<|wp_seq<|wp_rs rfl<|RQ.y rfl (Y.move (v:=.string d0) s0)<|RQ.y rfl (Y.lenS (by kernel_rfl) rfl)<|RQ.y rfl (Y.binI (v:=.bool (decide ((d0.size:Int) < 1))) rfl rfl rfl)<|RQ.y rfl (Y.move (v:=.bool (decide ((d0.size:Int) < 1))) rfl) ?_
  rcases bcases (decide ((d0.size:Int) < 1)) with c1|c1
  ·replace hm:=cF c1 hm
   have pc1:=of_decide_eq_false c1
   refine RQ.y (wantT (dj:=9) rfl (vb rfl c1)) (Y.move (v:=.string d0) s0)<|RQ.y (wantT (dj:=9) rfl (vb rfl c1)) (Y.lenS (by kernel_rfl) rfl)<|RQ.y (wantT (dj:=9) rfl (vb rfl c1)) (Y.binI (v:=.bool (decide ((d0.size:Int) > 11))) rfl rfl rfl)<|RQ.y rfl (Y.pick (b:=false) (v:=.bool (decide ((d0.size:Int) > 11))) (vb rfl c1) rfl)<|RQ.nil<|then_n ?_
   rcases bcases (decide ((d0.size:Int) > 11)) with c2|c2
   ·replace hm:=cF c2 hm
    have pc2:=of_decide_eq_false c2
    refine cond_f rfl (vb rfl c2)<|wp_skip<|then_n<|wp_seq<|wp_rs rfl<|RQ.y rfl (Y.assign (v:=.int .i64 0) rfl)<|RQ.nil<|then_n<|wp_seq<|wp_seq<|wp_rs rfl<|RQ.y rfl (Y.assign (v:=.int .i64 0) rfl)<|RQ.nil<|then_n<|wp_block ?_
    obtain ⟨K1,hK1,hm⟩ :∃K,K=(m_spec_ReadDecimal_A1 d0)∧m_spec_ReadDecimal_L1 d0 K (d0.size+1) 0 0=some r:=⟨_,rfl,hm⟩
    refine wp_loopX (fun g f w'=>∃(i26:Int) (i27:Int),f 0=.string d0∧f 4=.int .i64 i26∧f 5=.int .i64 i27∧0≤i27∧Below w.heap.size w w'∧m_spec_ReadDecimal_L1 d0 K1 g i26 i27=some r) 0 (fun f w'=>∃(i3:Int),f 0=.string d0∧f 4=.int .i64 i3∧Below w.heap.size w w'∧m_spec_ReadDecimal_A1 d0 i3=some r) (d0.size+1) ⟨0,0,s0,rfl,rfl,(by omega),T,hm⟩ ?_ ?_
    ·rintro f w4 ⟨i3,s0_1x,s4_1x,T,hm⟩
     unfold m_spec_ReadDecimal_A1 at hm
     refine blk_hit (then_n ?_)
     refine wp_seq<|wp_seq<|wp_rs rfl<|RQ.y rfl (Y.move (v:=.string d0) s0_1x) ?_
     obtain ⟨x5,e6,hm⟩:=bnd hm
     refine RQ.y rfl (Y.idxStr (b:=x5) rfl rfl (by kernel_rfl) e6)<|RQ.y rfl (Y.binI (v:=.bool (x5==45)) rfl rfl rfl)<|RQ.nil<|then_n ?_
     rcases bcases (x5==45) with c7|c7
     ·replace hm:=cF c7 hm
      refine cond_f rfl (vb rfl c7)<|wp_skip<|then_n<|wp_seq<|wp_seq<|wp_rb rfl<|RQ.y rfl (Y.move (v:=.int .i64 i3) s4_1x)<|RQ.call rfl (am3 rfl rfl rfl) (by kernel_rfl) (v:=.bool (inR i3 (-2147483648) 2147483647)) (bel (K:=fun _=>True) fun w' hb'=>(callB (spec_l00In i3 (-2147483648) 2147483647 w')))<|RQ.y rfl (Y.not (b':=(!(inR i3 (-2147483648) 2147483647))) rfl rfl)<|RQ.y rfl (Y.move (v:=.bool (!(inR i3 (-2147483648) 2147483647))) rfl) ?_
      rcases bcases (inR i3 (-2147483648) 2147483647) with c8|c8
      ·replace hm:=cF c8 hm
       iterate 4 refine RQ.skip (wantN (dj:=49) rfl (vbn rfl c8 rfl) rfl) ?_
       refine RQ.y rfl (Y.pick (b:=true) (v:=.bool true) (vbn rfl c8 rfl) rfl)<|RQ.nil ?_
       intro w9 hb10
       have szw9:=hb10.size
       have T:=Tt T hb10
       refine then_n<|cond_t rfl rfl<|wp_seq<|wp_rs rfl<|RQ.y rfl (Y.assign (v:=.int .i64 0) rfl)<|RQ.y rfl (Y.assign (v:=.bool false) rfl)<|RQ.nil<|then_n<|wp_ret ?_
       obtain rfl:=sj hm
       exact (then_r (ret2 rfl rfl rfl rfl ⟨rfl,T⟩))
      replace hm:=cT c8 hm
      refine RQ.y (wantT (dj:=49) rfl (vbn rfl c8 rfl)) (Y.move (v:=.int .i64 i3) s4_1x) ?_
      obtain ⟨y11,e12,hm⟩:=bnd hm
      refine RQ.call (wantT (dj:=49) rfl (vbn rfl c8 rfl)) (am1 rfl) (by kernel_rfl) (v:=.string y11) (bel (K:=fun _=>True) fun w' hb'=>(c_m_spec_Decimal i3 _ e12  w' ))<|RQ.y (wantT (dj:=49) rfl (vbn rfl c8 rfl)) (Y.move (v:=.string d0) s0_1x)<|RQ.y (wantT (dj:=49) rfl (vbn rfl c8 rfl)) (Y.neStr rfl rfl (by kernel_rfl))<|RQ.y rfl (Y.pick (b:=false) (v:=.bool (!(y11.toList==d0.toList))) (vbn rfl c8 rfl) rfl)<|RQ.nil ?_
      intro w13 hb14
      have szw13:=hb14.size
      have T:=Tt T hb14
      refine then_n ?_
      rcases bcases (y11.toList==d0.toList) with c15|c15
      ·replace hm:=cF c15 hm
       refine cond_t rfl (vbn rfl c15 rfl)<|wp_seq<|wp_rs rfl<|RQ.y rfl (Y.assign (v:=.int .i64 0) rfl)<|RQ.y rfl (Y.assign (v:=.bool false) rfl)<|RQ.nil<|then_n<|wp_ret ?_
       obtain rfl:=sj hm
       exact (then_r (ret2 rfl rfl rfl rfl ⟨rfl,T⟩))
      replace hm:=cT c15 hm
      refine cond_f rfl (vbn rfl c15 rfl)<|wp_skip<|then_n<|wp_seq<|wp_rs rfl<|RQ.y rfl (Y.move (v:=.int .i64 i3) s4_1x)<|RQ.y rfl (Y.assign (v:=.int .i64 i3) rfl)<|RQ.y rfl (Y.assign (v:=.bool true) rfl)<|RQ.nil<|then_n<|wp_ret ?_
      obtain rfl:=sj hm
      exact (ret2 rfl rfl rfl rfl ⟨rfl,T⟩)
     replace hm:=cT c7 hm
     refine cond_t rfl (vb rfl c7)<|wp_rs rfl<|RQ.y rfl (Y.move (v:=.int .i64 i3) s4_1x) ?_
     obtain ⟨s16,k17,hm⟩:=bnd hm
     refine RQ.y rfl (Y.neg (n:=i3) (m:=s16) rfl k17)<|RQ.y rfl (Y.assign (v:=.int .i64 s16) rfl)<|RQ.nil<|then_n<|wp_seq<|wp_seq<|wp_rb rfl<|RQ.y rfl (Y.move (v:=.int .i64 s16) rfl)<|RQ.call rfl (am3 rfl rfl rfl) (by kernel_rfl) (v:=.bool (inR s16 (-2147483648) 2147483647)) (bel (K:=fun _=>True) fun w' hb'=>(callB (spec_l00In s16 (-2147483648) 2147483647 w')))<|RQ.y rfl (Y.not (b':=(!(inR s16 (-2147483648) 2147483647))) rfl rfl)<|RQ.y rfl (Y.move (v:=.bool (!(inR s16 (-2147483648) 2147483647))) rfl) ?_
     rcases bcases (inR s16 (-2147483648) 2147483647) with c18|c18
     ·replace hm:=cF c18 hm
      iterate 4 refine RQ.skip (wantN (dj:=49) rfl (vbn rfl c18 rfl) rfl) ?_
      refine RQ.y rfl (Y.pick (b:=true) (v:=.bool true) (vbn rfl c18 rfl) rfl)<|RQ.nil ?_
      intro w19 hb20
      have szw19:=hb20.size
      have T:=Tt T hb20
      refine then_n<|cond_t rfl rfl<|wp_seq<|wp_rs rfl<|RQ.y rfl (Y.assign (v:=.int .i64 0) rfl)<|RQ.y rfl (Y.assign (v:=.bool false) rfl)<|RQ.nil<|then_n<|wp_ret ?_
      obtain rfl:=sj hm
      exact (then_r (ret2 rfl rfl rfl rfl ⟨rfl,T⟩))
     replace hm:=cT c18 hm
     refine RQ.y (wantT (dj:=49) rfl (vbn rfl c18 rfl)) (Y.move (v:=.int .i64 s16) rfl) ?_
     obtain ⟨y21,e22,hm⟩:=bnd hm
     refine RQ.call (wantT (dj:=49) rfl (vbn rfl c18 rfl)) (am1 rfl) (by kernel_rfl) (v:=.string y21) (bel (K:=fun _=>True) fun w' hb'=>(c_m_spec_Decimal s16 _ e22  w' ))<|RQ.y (wantT (dj:=49) rfl (vbn rfl c18 rfl)) (Y.move (v:=.string d0) s0_1x)<|RQ.y (wantT (dj:=49) rfl (vbn rfl c18 rfl)) (Y.neStr rfl rfl (by kernel_rfl))<|RQ.y rfl (Y.pick (b:=false) (v:=.bool (!(y21.toList==d0.toList))) (vbn rfl c18 rfl) rfl)<|RQ.nil ?_
     intro w23 hb24
     have szw23:=hb24.size
     have T:=Tt T hb24
     refine then_n ?_
     rcases bcases (y21.toList==d0.toList) with c25|c25
     ·replace hm:=cF c25 hm
      refine cond_t rfl (vbn rfl c25 rfl)<|wp_seq<|wp_rs rfl<|RQ.y rfl (Y.assign (v:=.int .i64 0) rfl)<|RQ.y rfl (Y.assign (v:=.bool false) rfl)<|RQ.nil<|then_n<|wp_ret ?_
      obtain rfl:=sj hm
      exact (then_r (ret2 rfl rfl rfl rfl ⟨rfl,T⟩))
     replace hm:=cT c25 hm
     refine cond_f rfl (vbn rfl c25 rfl)<|wp_skip<|then_n<|wp_seq<|wp_rs rfl<|RQ.y rfl (Y.move (v:=.int .i64 s16) rfl)<|RQ.y rfl (Y.assign (v:=.int .i64 s16) rfl)<|RQ.y rfl (Y.assign (v:=.bool true) rfl)<|RQ.nil<|then_n<|wp_ret ?_
     obtain rfl:=sj hm
     exact (ret2 rfl rfl rfl rfl ⟨rfl,T⟩)
    rintro g f w28 ⟨i26,i27,s0_1,s4_1,s5_1,nn5_1,T,hm⟩
    rcases g with _|g
    ·simp only [m_spec_ReadDecimal_L1] at hm; cases hm
    obtain ⟨rec1,hrec1,hm⟩ :∃z,z=m_spec_ReadDecimal_L1 d0 K1 g∧m_spec_ReadDecimal_B1 d0 z K1 i26 i27=some r:=⟨_,rfl,hm⟩
    unfold m_spec_ReadDecimal_B1 at hm
    refine wp_seq<|wp_seq<|wp_rs rfl<|RQ.y rfl (Y.move (v:=.int .i64 i27) s5_1)<|RQ.y rfl (Y.move (v:=.string d0) s0_1)<|RQ.y rfl (Y.lenS (by kernel_rfl) rfl)<|RQ.y rfl (Y.binI (v:=.bool (decide (i27 < (d0.size:Int)))) rfl rfl rfl)<|RQ.nil<|then_n ?_
    rcases bcases (decide (i27 < (d0.size:Int))) with c29|c29
    ·replace hm:=cF c29 hm
     have pc29:=of_decide_eq_false c29
     refine cond_f rfl (vb rfl c29)<|wp_exit ?_
     exact (then_x (then_x (hit_x ⟨_,rfl,⟨i26,s0_1,s4_1,T,(by rw [hK1] at hm; exact hm)⟩⟩)))
    replace hm:=cT c29 hm
    have pc29:=of_decide_eq_true c29
    refine cond_t rfl (vb rfl c29)<|wp_skip<|then_n<|wp_seq<|wp_block<|wp_seq<|wp_seq<|wp_rs rfl<|RQ.y rfl (Y.move (v:=.int .i64 i27) s5_1)<|RQ.y rfl (Y.binI (v:=.bool (i27==0)) rfl rfl rfl)<|RQ.y rfl (Y.move (v:=.bool (i27==0)) rfl) ?_
    rcases bcases (i27==0) with c30|c30
    ·replace hm:=cF c30 hm
     iterate 4 refine RQ.skip (wantN (dj:=22) rfl (vb rfl c30) rfl) ?_
     refine RQ.y rfl (Y.pick (b:=false) (v:=.bool false) (vb rfl c30) rfl)<|RQ.nil<|then_n<|cond_f rfl rfl<|wp_skip<|then_n<|wp_seq<|wp_seq<|wp_rb rfl<|RQ.y rfl (Y.move (v:=.string d0) s0_1)<|RQ.y rfl (Y.move (v:=.int .i64 i27) s5_1) ?_
     obtain ⟨x31,e32,hm⟩:=bnd hm
     refine RQ.y rfl (Y.idxStr (b:=x31) rfl rfl (by kernel_rfl) e32) ?_
     obtain ⟨y33,e34,hm⟩:=bnd hm
     refine RQ.call rfl (am1 rfl) (by kernel_rfl) (v:=.bool y33) (bel (K:=fun _=>True) fun w' hb'=>(c_m_spec_l01Digit x31 _ e34  w' ))<|RQ.y rfl (Y.not (b':=(!y33)) rfl rfl)<|RQ.nil ?_
     intro w35 hb36
     have szw35:=hb36.size
     have T:=Tt T hb36
     refine then_n ?_
     rcases bcases y33 with c37|c37
     ·replace hm:=cF c37 hm
      refine cond_t rfl (vbn rfl c37 rfl)<|wp_seq<|wp_rs rfl<|RQ.y rfl (Y.assign (v:=.int .i64 0) rfl)<|RQ.y rfl (Y.assign (v:=.bool false) rfl)<|RQ.nil<|then_n<|wp_ret ?_
      obtain rfl:=sj hm
      exact (then_r (blk_r (then_r (then_r (hit_r (blk_r (then_r (ret2 rfl rfl rfl rfl ⟨rfl,T⟩))))))))
     replace hm:=cT c37 hm
     refine cond_f rfl (vbn rfl c37 rfl)<|wp_skip<|then_n<|wp_rs rfl<|RQ.y rfl (Y.move (v:=.int .i64 i26) s4_1) ?_
     obtain ⟨s38,ks38,hm⟩:=bnd hm
     replace ks38:=ck_some ks38
     refine RQ.y rfl (Y.binI (v:=.int .i64 s38) rfl rfl (by rw [binI_mul ks38.2,ks38.1]))<|RQ.y rfl (Y.move (v:=.string d0) s0_1)<|RQ.y rfl (Y.move (v:=.int .i64 i27) s5_1) ?_
     obtain ⟨x39,e40,hm⟩:=bnd hm
     refine RQ.y rfl (Y.idxStr (b:=x39) rfl rfl (by kernel_rfl) e40)<|RQ.y rfl (Y.binI (v:=.int .u8 (u8w (x39 - 48))) rfl rfl rfl) ?_
     obtain ⟨s41,k42,hm⟩:=bnd hm
     replace k42:=ck_some k42
     refine RQ.y rfl (Y.ofU8 (n:=(u8w (x39 - 48))) (m:=s41) rfl (by kernel_rfl) (by kernel_rfl) k42) ?_
     obtain ⟨s43,ks43,hm⟩:=bnd hm
     replace ks43:=ck_some ks43
     refine RQ.y rfl (Y.binI (v:=.int .i64 s43) rfl rfl (by rw [binI_add ks43.2,ks43.1]))<|RQ.y rfl (Y.assign (v:=.int .i64 s43) rfl)<|RQ.nil ?_
     refine blk_n (then_n ?_)
     refine wp_rs rfl<|RQ.y rfl (Y.move (v:=.int .i64 i27) s5_1) ?_
     obtain ⟨s44,ks44,hm⟩:=bnd hm
     replace ks44:=ck_some ks44
     refine RQ.y rfl (Y.binI (v:=.int .i64 s44) rfl rfl (by rw [binI_add ks44.2,ks44.1]))<|RQ.y rfl (Y.assign (v:=.int .i64 s44) rfl)<|RQ.nil ?_
     exact (then_n ⟨g,_,Nat.lt_succ_self _,rfl,⟨s43,s44,s0_1,rfl,rfl,(by omega),T,(by rw [← hrec1]; exact hm)⟩⟩)
    replace hm:=cT c30 hm
    refine RQ.y (wantT (dj:=22) rfl (vb rfl c30)) (Y.move (v:=.string d0) s0_1)<|RQ.y (wantT (dj:=22) rfl (vb rfl c30)) (Y.move (v:=.int .i64 i27) s5_1) ?_
    obtain ⟨x45,e46,hm⟩:=bnd hm
    refine RQ.y (wantT (dj:=22) rfl (vb rfl c30)) (Y.idxStr (b:=x45) rfl rfl (by kernel_rfl) e46)<|RQ.y (wantT (dj:=22) rfl (vb rfl c30)) (Y.binI (v:=.bool (x45==45)) rfl rfl rfl)<|RQ.y rfl (Y.pick (b:=true) (v:=.bool (x45==45)) (vb rfl c30) rfl)<|RQ.nil<|then_n ?_
    rcases bcases (x45==45) with c47|c47
    ·replace hm:=cF c47 hm
     refine cond_f rfl (vb rfl c47)<|wp_skip<|then_n<|wp_seq<|wp_seq<|wp_rb rfl<|RQ.y rfl (Y.move (v:=.string d0) s0_1)<|RQ.y rfl (Y.move (v:=.int .i64 i27) s5_1) ?_
     obtain ⟨x48,e49,hm⟩:=bnd hm
     refine RQ.y rfl (Y.idxStr (b:=x48) rfl rfl (by kernel_rfl) e49) ?_
     obtain ⟨y50,e51,hm⟩:=bnd hm
     refine RQ.call rfl (am1 rfl) (by kernel_rfl) (v:=.bool y50) (bel (K:=fun _=>True) fun w' hb'=>(c_m_spec_l01Digit x48 _ e51  w' ))<|RQ.y rfl (Y.not (b':=(!y50)) rfl rfl)<|RQ.nil ?_
     intro w52 hb53
     have szw52:=hb53.size
     have T:=Tt T hb53
     refine then_n ?_
     rcases bcases y50 with c54|c54
     ·replace hm:=cF c54 hm
      refine cond_t rfl (vbn rfl c54 rfl)<|wp_seq<|wp_rs rfl<|RQ.y rfl (Y.assign (v:=.int .i64 0) rfl)<|RQ.y rfl (Y.assign (v:=.bool false) rfl)<|RQ.nil<|then_n<|wp_ret ?_
      obtain rfl:=sj hm
      exact (then_r (blk_r (then_r (then_r (hit_r (blk_r (then_r (ret2 rfl rfl rfl rfl ⟨rfl,T⟩))))))))
     replace hm:=cT c54 hm
     refine cond_f rfl (vbn rfl c54 rfl)<|wp_skip<|then_n<|wp_rs rfl<|RQ.y rfl (Y.move (v:=.int .i64 i26) s4_1) ?_
     obtain ⟨s55,ks55,hm⟩:=bnd hm
     replace ks55:=ck_some ks55
     refine RQ.y rfl (Y.binI (v:=.int .i64 s55) rfl rfl (by rw [binI_mul ks55.2,ks55.1]))<|RQ.y rfl (Y.move (v:=.string d0) s0_1)<|RQ.y rfl (Y.move (v:=.int .i64 i27) s5_1) ?_
     obtain ⟨x56,e57,hm⟩:=bnd hm
     refine RQ.y rfl (Y.idxStr (b:=x56) rfl rfl (by kernel_rfl) e57)<|RQ.y rfl (Y.binI (v:=.int .u8 (u8w (x56 - 48))) rfl rfl rfl) ?_
     obtain ⟨s58,k59,hm⟩:=bnd hm
     replace k59:=ck_some k59
     refine RQ.y rfl (Y.ofU8 (n:=(u8w (x56 - 48))) (m:=s58) rfl (by kernel_rfl) (by kernel_rfl) k59) ?_
     obtain ⟨s60,ks60,hm⟩:=bnd hm
     replace ks60:=ck_some ks60
     refine RQ.y rfl (Y.binI (v:=.int .i64 s60) rfl rfl (by rw [binI_add ks60.2,ks60.1]))<|RQ.y rfl (Y.assign (v:=.int .i64 s60) rfl)<|RQ.nil ?_
     refine blk_n (then_n ?_)
     refine wp_rs rfl<|RQ.y rfl (Y.move (v:=.int .i64 i27) s5_1) ?_
     obtain ⟨s61,ks61,hm⟩:=bnd hm
     replace ks61:=ck_some ks61
     refine RQ.y rfl (Y.binI (v:=.int .i64 s61) rfl rfl (by rw [binI_add ks61.2,ks61.1]))<|RQ.y rfl (Y.assign (v:=.int .i64 s61) rfl)<|RQ.nil ?_
     exact (then_n ⟨g,_,Nat.lt_succ_self _,rfl,⟨s60,s61,s0_1,rfl,rfl,(by omega),T,(by rw [← hrec1]; exact hm)⟩⟩)
    replace hm:=cT c47 hm
    refine cond_t rfl (vb rfl c47)<|wp_exit ?_
    refine then_x (blk_hit (then_n ?_))
    refine wp_rs rfl<|RQ.y rfl (Y.move (v:=.int .i64 i27) s5_1) ?_
    obtain ⟨s62,ks62,hm⟩:=bnd hm
    replace ks62:=ck_some ks62
    refine RQ.y rfl (Y.binI (v:=.int .i64 s62) rfl rfl (by rw [binI_add ks62.2,ks62.1]))<|RQ.y rfl (Y.assign (v:=.int .i64 s62) rfl)<|RQ.nil ?_
    exact (then_n ⟨g,_,Nat.lt_succ_self _,rfl,⟨i26,s62,s0_1,s4_1,rfl,(by omega),T,(by rw [← hrec1]; exact hm)⟩⟩)
   replace hm:=cT c2 hm
   have pc2:=of_decide_eq_true c2
   refine cond_t rfl (vb rfl c2)<|wp_seq<|wp_rs rfl<|RQ.y rfl (Y.assign (v:=.int .i64 0) rfl)<|RQ.y rfl (Y.assign (v:=.bool false) rfl)<|RQ.nil<|then_n<|wp_ret ?_
   obtain rfl:=sj hm
   exact (then_r (ret2 rfl rfl rfl rfl ⟨rfl,T⟩))
  replace hm:=cT c1 hm
  have pc1:=of_decide_eq_true c1
  iterate 3 refine RQ.skip (wantN (dj:=9) rfl (vb rfl c1) rfl) ?_
  refine RQ.y rfl (Y.pick (b:=true) (v:=.bool true) (vb rfl c1) rfl)<|RQ.nil<|then_n<|cond_t rfl rfl<|wp_seq<|wp_rs rfl<|RQ.y rfl (Y.assign (v:=.int .i64 0) rfl)<|RQ.y rfl (Y.assign (v:=.bool false) rfl)<|RQ.nil<|then_n<|wp_ret ?_
  obtain rfl:=sj hm
  exact (then_r (ret2 rfl rfl rfl rfl ⟨rfl,T⟩))
def m_spec_OperatorOf_A1:Option Int:=
  some 0
def m_spec_OperatorOf_B1 (d0:ByteArray) (rec1:Int→Option Int) (K1:Option Int) (i2:Int):Option Int:=
  ((m_spec_l01Operators ).bind fun y4=>(bif (decide (i2 < (y4.length:Int))) then ((m_spec_l01Operators ).bind fun y14=>((getI y14 i2).bind fun x23=>(bif (x23.toList==d0.toList) then some (i2+1) else (rec1 (i2+1))))) else (K1)))
def m_spec_OperatorOf_L1 (d0:ByteArray) (K1:Option Int):Nat→Int→Option Int
  |0,_=>none
  |g+1,i2=>m_spec_OperatorOf_B1 d0 (m_spec_OperatorOf_L1 d0 K1 g) K1 i2
def m_spec_OperatorOf (d0:ByteArray):Option Int:=
  (m_spec_OperatorOf_L1 d0 m_spec_OperatorOf_A1 (8) 0)
set_option maxHeartbeats 2000000 in
theorem c_m_spec_OperatorOf (d0:ByteArray) (r:Int) (hm:m_spec_OperatorOf d0=some r)  (w:World)  :
    Calls Tryz.prog 81 #[.string d0] w fun e w'=>e=.returned (.int .i64 r)∧Below w.heap.size w w':=by
  have T:=Below.refl w.heap.size w
  unfold m_spec_OperatorOf at hm
  refine enter 18 Tryz.func81 rfl rfl rfl ?_
  intro f hf
  have s0:f 0=.string d0:=hf 0 _ rfl
  refine wp_seq<|wp_rs rfl<|RQ.y rfl (Y.assign (v:=.int .i64 0) rfl)<|RQ.nil<|then_n<|wp_seq<|wp_seq<|wp_rs rfl<|RQ.y rfl (Y.assign (v:=.int .i64 0) rfl)<|RQ.nil<|then_n<|wp_block ?_
  obtain ⟨K1,hK1,hm⟩ :∃K,K=m_spec_OperatorOf_A1∧m_spec_OperatorOf_L1 d0 K (8) 0=some r:=⟨_,rfl,hm⟩
  refine wp_loopX (fun g f w'=>∃(i2:Int),f 0=.string d0∧f 3=.int .i64 i2∧0≤i2∧Below w.heap.size w w'∧m_spec_OperatorOf_L1 d0 K1 g i2=some r) 0 (fun f w'=>Below w.heap.size w w'∧m_spec_OperatorOf_A1  = some r) (8) ⟨0,s0,rfl,(by omega),T,hm⟩ ?_ ?_
  ·rintro f w1 ⟨T,hm⟩
   unfold m_spec_OperatorOf_A1 at hm
   refine blk_hit (then_n ?_)
   refine wp_seq<|wp_rs rfl<|RQ.y rfl (Y.assign (v:=.int .i64 0) rfl)<|RQ.nil<|then_n<|wp_ret ?_
   obtain rfl:=sj hm
   exact (ret1 rfl rfl rfl ⟨rfl,T⟩)
  rintro g f w3 ⟨i2,s0_1,s3_1,nn3_1,T,hm⟩
  rcases g with _|g
  ·simp only [m_spec_OperatorOf_L1] at hm; cases hm
  obtain ⟨rec1,hrec1,hm⟩ :∃z,z=m_spec_OperatorOf_L1 d0 K1 g∧m_spec_OperatorOf_B1 d0 z K1 i2=some r:=⟨_,rfl,hm⟩
  unfold m_spec_OperatorOf_B1 at hm
  refine wp_seq<|wp_seq<|wp_rl rfl<|RL.y rfl (Y.move (v:=.int .i64 i2) s3_1) ?_
  obtain ⟨y4,e5,hm⟩:=bnd hm
  refine RL.call rfl (am0) (by kernel_rfl) ((c_m_spec_l01Operators  _ e5  _ ).mono ?_)
  rintro _ w9 ⟨⟨v6,rfl,G7⟩,hb10⟩
  refine ⟨_,rfl,?_⟩
  have szw9:=hb10.size
  have T0w9:=T.size
  have T:=Tt T hb10
  replace G7:=OwF.mono G7 T0w9
  obtain ⟨A11,c12,rfl⟩:=OwF.form G7
  have qbA11:=OwF.bound G7
  refine RL.y rfl (Y.len (by kernel_rfl) rfl)<|RL.y rfl (Y.binI (v:=.bool (decide (i2 < (y4.length:Int)))) rfl rfl rfl)<|RL.nil<|then_n ?_
  rcases bcases (decide (i2 < (y4.length:Int))) with c13|c13
  ·replace hm:=cF c13 hm
   have pc13:=of_decide_eq_false c13
   refine cond_f rfl (vb rfl c13)<|wp_exit ?_
   exact (then_x (then_x (hit_x ⟨_,rfl,⟨T,(by rw [hK1] at hm; exact hm)⟩⟩)))
  replace hm:=cT c13 hm
  have pc13:=of_decide_eq_true c13
  refine cond_t rfl (vb rfl c13)<|wp_skip<|then_n<|wp_seq<|wp_block<|wp_seq<|wp_rl rfl ?_
  obtain ⟨y14,e15,hm⟩:=bnd hm
  refine RL.call rfl (am0) (by kernel_rfl) ((c_m_spec_l01Operators  _ e15  _ ).mono ?_)
  rintro _ w19 ⟨⟨v16,rfl,G17⟩,hb20⟩
  refine ⟨_,rfl,?_⟩
  have szw19:=hb20.size
  have T0w19:=T.size
  have T:=Tt T hb20
  replace G17:=OwF.mono G17 T0w19
  refine RL.y rfl (Y.move (v:=.int .i64 i2) s3_1) ?_
  obtain ⟨A21,c22,rfl⟩:=OwF.form G17
  have qbA21:=OwF.bound G17
  obtain ⟨x23,hx25,hm⟩:=bnd hm
  obtain ⟨k24,hk26,hl27,hx25⟩:=getI_some hx25
  obtain ⟨b28,rfl⟩:=OwF.addr0 G17 (by omega)
  refine RL.y rfl (Y.indexAddr (m:=k24) (sz:=1) rfl rfl hk26 hl27 (by kernel_rfl))<|RL.y rfl (Y.load (v:=.string x23) rfl (by kernel_rfl) (eqC (OwF.cell fS G17 hx25 (j:=0) rfl)))<|RL.y rfl (Y.move (v:=.string d0) s0_1)<|RL.y rfl (Y.eqStr rfl rfl (by kernel_rfl))<|RL.nil<|then_n ?_
  rcases bcases (x23.toList==d0.toList) with c29|c29
  ·replace hm:=cF c29 hm
   refine cond_f rfl (vb rfl c29)<|wp_skip ?_
   refine blk_n (then_n ?_)
   refine wp_rs rfl<|RQ.y rfl (Y.move (v:=.int .i64 i2) s3_1)<|RQ.y rfl (Y.binI rfl rfl (binI_add (m:=i2) (by omega)))<|RQ.y rfl (Y.assign (v:=.int .i64 (i2+1)) rfl)<|RQ.nil ?_
   exact (then_n ⟨g,_,Nat.lt_succ_self _,rfl,⟨(i2+1),s0_1,rfl,(by omega),T,(by rw [← hrec1]; exact hm)⟩⟩)
  replace hm:=cT c29 hm
  refine cond_t rfl (vb rfl c29)<|wp_seq<|wp_rs rfl<|RQ.y rfl (Y.move (v:=.int .i64 i2) s3_1)<|RQ.y rfl (Y.binI rfl rfl (binI_add (m:=i2) (by omega)))<|RQ.y rfl (Y.assign (v:=.int .i64 (i2+1)) rfl)<|RQ.nil<|then_n<|wp_ret ?_
  obtain rfl:=sj hm
  exact (blk_r (then_r (then_r (hit_r (blk_r (then_r (ret1 rfl rfl rfl ⟨rfl,T⟩)))))))
def m_spec_l11Split_A1 (d0:ByteArray) (xs7:List ByteArray) (i8:Int):Option (List ByteArray):=
  ((subS d0 i8 (d0.size:Int)).bind fun s10=>((mustP (xs7.length+([s10]).length≤4294967296)).bind fun _=>some (xs7 ++ [s10])))
def m_spec_l11Split_B1 (d0:ByteArray) (d1:Int) (rec1:List ByteArray→Int→Int→Option (List ByteArray)) (K1:List ByteArray→Int→Option (List ByteArray)) (xs27:List ByteArray) (i28:Int) (i29:Int):Option (List ByteArray):=
  (bif (decide (i29 < (d0.size:Int))) then ((getB d0 i29).bind fun x32=>(bif (x32==d1) then ((subS d0 i28 i29).bind fun s36=>((mustP (xs27.length+([s36]).length≤4294967296)).bind fun _=>((ck (i29+1)).bind fun s53=>((ck (i29+1)).bind fun s54=>(rec1 (xs27 ++ [s36]) s53 s54))))) else ((ck (i29+1)).bind fun s35=>(rec1 xs27 i28 s35)))) else (K1 xs27 i28))
def m_spec_l11Split_L1 (d0:ByteArray) (d1:Int) (K1:List ByteArray→Int→Option (List ByteArray)):Nat→List ByteArray→Int→Int→Option (List ByteArray)
  |0,_,_,_=>none
  |g+1,xs27,i28,i29=>m_spec_l11Split_B1 d0 d1 (m_spec_l11Split_L1 d0 d1 K1 g) K1 xs27 i28 i29
def m_spec_l11Split (d0:ByteArray) (d1:Int):Option (List ByteArray):=
  (m_spec_l11Split_L1 d0 d1 (m_spec_l11Split_A1 d0) (d0.size+1) ([] : List ByteArray) 0 0)
set_option maxHeartbeats 2000000 in
theorem c_m_spec_l11Split (d0:ByteArray) (d1:Int) (r:List ByteArray) (hm:m_spec_l11Split d0 d1=some r)  (w:World)  :
    Calls Tryz.prog 21 #[.string d0,.int .u8 d1] w fun e w'=>(∃(v0:Value),e=.returned (v0)∧OwF 9 encS 1 w' w.heap.size v0 r)∧Below w.heap.size w w':=by
  have T:=Below.refl w.heap.size w
  unfold m_spec_l11Split at hm
  refine enter 35 Tryz.func21 rfl rfl rfl ?_
  intro f hf
  have s0:f 0=.string d0:=hf 0 _ rfl
  have s1:f 1=.int .u8 d1:=hf 1 _ rfl
  refine wp_seq<|wp_rs rfl<|RQ.y rfl (Y.assign (v:=.slice none 0 0) rfl)<|RQ.nil<|then_n<|wp_seq<|wp_rl rfl ?_
  refine RL.bslice (e:=9) (cells:=#[]) rfl pm0 (by kernel_rfl) (fun w1 B2 hb3 szw1=>?_)
  have ZB2:w.heap.size≤w.heap.size:=T.size
  have T:=Tt T hb3
  have G5:=OwF.lit (enc:=encS) (sz:=1) (xs:=([] : List ByteArray)) B2 ZB2 rfl rfl rfl rfl
  refine RL.y rfl (Y.assign (v:=.slice (some ⟨w.heap.size,0,none⟩) 0 0) rfl)<|RL.nil<|then_n<|wp_seq<|wp_rs rfl<|RQ.y rfl (Y.assign (v:=.int .i64 0) rfl)<|RQ.nil<|then_n<|wp_seq<|wp_seq<|wp_rs rfl<|RQ.y rfl (Y.assign (v:=.int .i64 0) rfl)<|RQ.nil<|then_n<|wp_block ?_
  obtain ⟨K1,hK1,hm⟩ :∃K,K=(m_spec_l11Split_A1 d0)∧m_spec_l11Split_L1 d0 d1 K (d0.size+1) ([] : List ByteArray) 0 0=some r:=⟨_,rfl,hm⟩
  refine wp_loopX (fun g f w'=>∃(xs27:List ByteArray) (i28:Int) (i29:Int) (uxs27:Value),f 0=.string d0∧f 1=.int .u8 d1∧f 5=uxs27∧OwF 9 encS 1 w' w.heap.size uxs27 xs27∧f 6=.int .i64 i28∧0≤i28∧f 7=.int .i64 i29∧0≤i29∧Below w.heap.size w w'∧m_spec_l11Split_L1 d0 d1 K1 g xs27 i28 i29=some r) 0 (fun f w'=>∃(xs7:List ByteArray) (i8:Int) (uxs7:Value),f 0=.string d0∧f 5=uxs7∧OwF 9 encS 1 w' w.heap.size uxs7 xs7∧f 6=.int .i64 i8∧0≤i8∧Below w.heap.size w w'∧m_spec_l11Split_A1 d0 xs7 i8=some r) (d0.size+1) ⟨([] : List ByteArray),0,0,(.slice (some ⟨w.heap.size,0,none⟩) 0 0),s0,s1,rfl,G5,rfl,(by omega),rfl,(by omega),T,hm⟩ ?_ ?_
  ·rintro f w9 ⟨xs7,i8,uxs7,s0_1x,s5_1x,Guxs7,s6_1x,nn6_1x,T,hm⟩
   unfold m_spec_l11Split_A1 at hm
   refine blk_hit (then_n ?_)
   refine wp_seq<|wp_rl rfl<|RL.y rfl (Y.move (v:=uxs7) s5_1x)<|RL.y rfl (Y.move (v:=.string d0) s0_1x)<|RL.y rfl (Y.move (v:=.int .i64 i8) s6_1x) ?_
   obtain ⟨s10,k11,hm⟩:=bnd hm
   refine RL.y rfl (Y.subLo (s:=s10) rfl rfl (by kernel_rfl) k11) ?_
   refine RL.bslice (e:=9) (cells:=#[.string s10]) rfl (pm1 rfl) (by kernel_rfl) (fun w12 B13 hb14 szw12=>?_)
   have ZB13:w.heap.size≤w9.heap.size:=T.size
   have Do15_oxs7:=Dj.new (v:=.slice (some ⟨w9.heap.size,0,none⟩) 1 1) litGe (OwF.hi Guxs7)
   have Guxs7:=OwF.below Guxs7 hb14
   have T:=Tt T hb14
   have G16:=OwF.lit (enc:=encS) (sz:=1) (xs:=[s10]) B13 ZB13 rfl rfl rfl rfl
   obtain ⟨_,m18,hm⟩:=bnd hm
   have hk19:=mustP_some m18
   refine RL.append fS app_string rfl rfl rfl Guxs7 (OwF.arg fS G16) T.size hk19 (fun v20 w21 G22 hgr23 hbl24 hnb25=>?_)
   have szw21:=hbl24.size
   have T:=T.trans hbl24
   refine RL.y rfl (Y.assign (v:=v20) rfl)<|RL.nil<|then_n<|wp_ret ?_
   obtain rfl:=sj hm
   exact (ret1 rfl rfl rfl ⟨⟨_,rfl,G22⟩,T⟩)
  rintro g f w30 ⟨xs27,i28,i29,uxs27,s0_1,s1_1,s5_1,Guxs27,s6_1,nn6_1,s7_1,nn7_1,T,hm⟩
  rcases g with _|g
  ·simp only [m_spec_l11Split_L1] at hm; cases hm
  obtain ⟨rec1,hrec1,hm⟩ :∃z,z=m_spec_l11Split_L1 d0 d1 K1 g∧m_spec_l11Split_B1 d0 d1 z K1 xs27 i28 i29=some r:=⟨_,rfl,hm⟩
  unfold m_spec_l11Split_B1 at hm
  refine wp_seq<|wp_seq<|wp_rs rfl<|RQ.y rfl (Y.move (v:=.int .i64 i29) s7_1)<|RQ.y rfl (Y.move (v:=.string d0) s0_1)<|RQ.y rfl (Y.lenS (by kernel_rfl) rfl)<|RQ.y rfl (Y.binI (v:=.bool (decide (i29 < (d0.size:Int)))) rfl rfl rfl)<|RQ.nil<|then_n ?_
  rcases bcases (decide (i29 < (d0.size:Int))) with c31|c31
  ·replace hm:=cF c31 hm
   have pc31:=of_decide_eq_false c31
   refine cond_f rfl (vb rfl c31)<|wp_exit ?_
   exact (then_x (then_x (hit_x ⟨_,rfl,⟨xs27,i28,(uxs27),s0_1,s5_1,Guxs27,s6_1,(by omega),T,(by rw [hK1] at hm; exact hm)⟩⟩)))
  replace hm:=cT c31 hm
  have pc31:=of_decide_eq_true c31
  refine cond_t rfl (vb rfl c31)<|wp_skip<|then_n<|wp_seq<|wp_block<|wp_seq<|wp_rs rfl<|RQ.y rfl (Y.move (v:=.string d0) s0_1)<|RQ.y rfl (Y.move (v:=.int .i64 i29) s7_1) ?_
  obtain ⟨x32,e33,hm⟩:=bnd hm
  refine RQ.y rfl (Y.idxStr (b:=x32) rfl rfl (by kernel_rfl) e33)<|RQ.y rfl (Y.move (v:=.int .u8 d1) s1_1)<|RQ.y rfl (Y.binI (v:=.bool (x32==d1)) rfl rfl rfl)<|RQ.nil<|then_n ?_
  rcases bcases (x32==d1) with c34|c34
  ·replace hm:=cF c34 hm
   refine cond_f rfl (vb rfl c34)<|wp_skip ?_
   refine blk_n (then_n ?_)
   refine wp_rs rfl<|RQ.y rfl (Y.move (v:=.int .i64 i29) s7_1) ?_
   obtain ⟨s35,ks35,hm⟩:=bnd hm
   replace ks35:=ck_some ks35
   refine RQ.y rfl (Y.binI (v:=.int .i64 s35) rfl rfl (by rw [binI_add ks35.2,ks35.1]))<|RQ.y rfl (Y.assign (v:=.int .i64 s35) rfl)<|RQ.nil ?_
   exact (then_n ⟨g,_,Nat.lt_succ_self _,rfl,⟨xs27,i28,s35,(uxs27),s0_1,s1_1,s5_1,Guxs27,s6_1,(by omega),rfl,(by omega),T,(by rw [← hrec1]; exact hm)⟩⟩)
  replace hm:=cT c34 hm
  refine cond_t rfl (vb rfl c34)<|wp_seq<|wp_rl rfl<|RL.y rfl (Y.move (v:=uxs27) s5_1)<|RL.y rfl (Y.move (v:=.string d0) s0_1)<|RL.y rfl (Y.move (v:=.int .i64 i28) s6_1)<|RL.y rfl (Y.move (v:=.int .i64 i29) s7_1) ?_
  obtain ⟨s36,k37,hm⟩:=bnd hm
  refine RL.y rfl (Y.subS (s:=s36) rfl rfl rfl (by kernel_rfl) k37) ?_
  refine RL.bslice (e:=9) (cells:=#[.string s36]) rfl (pm1 rfl) (by kernel_rfl) (fun w38 B39 hb40 szw38=>?_)
  have ZB39:w.heap.size≤w30.heap.size:=T.size
  have Do41_oxs27:=Dj.new (v:=.slice (some ⟨w30.heap.size,0,none⟩) 1 1) litGe (OwF.hi Guxs27)
  have Guxs27:=OwF.below Guxs27 hb40
  have T:=Tt T hb40
  have G42:=OwF.lit (enc:=encS) (sz:=1) (xs:=[s36]) B39 ZB39 rfl rfl rfl rfl
  obtain ⟨_,m44,hm⟩:=bnd hm
  have hk45:=mustP_some m44
  refine RL.append fS app_string rfl rfl rfl Guxs27 (OwF.arg fS G42) T.size hk45 (fun v46 w47 G48 hgr49 hbl50 hnb51=>?_)
  have szw47:=hbl50.size
  have T:=T.trans hbl50
  refine RL.y rfl (Y.assign (v:=v46) rfl)<|RL.nil<|then_n<|wp_rs rfl<|RQ.y rfl (Y.move (v:=.int .i64 i29) s7_1) ?_
  obtain ⟨s53,ks53,hm⟩:=bnd hm
  replace ks53:=ck_some ks53
  refine RQ.y rfl (Y.binI (v:=.int .i64 s53) rfl rfl (by rw [binI_add ks53.2,ks53.1]))<|RQ.y rfl (Y.assign (v:=.int .i64 s53) rfl)<|RQ.nil ?_
  refine blk_n (then_n ?_)
  refine wp_rs rfl<|RQ.y rfl (Y.move (v:=.int .i64 i29) s7_1) ?_
  obtain ⟨s54,ks54,hm⟩:=bnd hm
  replace ks54:=ck_some ks54
  refine RQ.y rfl (Y.binI (v:=.int .i64 s54) rfl rfl (by rw [binI_add ks54.2,ks54.1]))<|RQ.y rfl (Y.assign (v:=.int .i64 s54) rfl)<|RQ.nil ?_
  exact (then_n ⟨g,_,Nat.lt_succ_self _,rfl,⟨(xs27 ++ [s36]),s53,s54,(v46),s0_1,s1_1,rfl,G48,rfl,(by omega),rfl,(by omega),T,(by rw [← hrec1]; exact hm)⟩⟩)
def m_spec_l11ReadPort (d0:ByteArray):Option (DPort × Bool):=
  ((m_spec_l11Split d0 46).bind fun y5=>(bif ((y5.length:Int) != 2) then some ((⟨0,0⟩:DPort),false) else ((getI y5 0).bind fun x15=>((m_spec_ReadDecimal x15).bind fun y21=>((getI y5 1).bind fun x25=>((m_spec_ReadDecimal x25).bind fun y30=>(bif y21.2 then some ((⟨y21.1,y30.1⟩:DPort),y30.2) else some ((⟨y21.1,y30.1⟩:DPort),false))))))))
set_option maxHeartbeats 2000000 in
theorem c_m_spec_l11ReadPort (d0:ByteArray) (r:DPort × Bool) (hm:m_spec_l11ReadPort d0=some r)  (w:World)  :
    Calls Tryz.prog 44 #[.string d0] w fun e w'=>e=.returned (.tuple #[.agg #[.int .i64 r.1.agent,.int .i64 r.1.slot],.bool r.2])∧Below w.heap.size w w':=by
  have T:=Below.refl w.heap.size w
  unfold m_spec_l11ReadPort at hm
  refine enter 36 Tryz.func44 rfl rfl rfl ?_
  intro f hf
  have s0:f 0=.string d0:=hf 0 _ rfl
  refine wp_seq<|wp_rl rfl ?_
  refine RL.alloc (z:=.agg #[.int .i64 0,.int .i64 0]) rfl (by kernel_rfl) (fun w1 B2 hb3 szw1=>?_)
  replace B2:Blk w1 w.heap.size 61 #[.int .i64 0,.int .i64 0]:=B2
  have GB2:w.heap.size≤w.heap.size:=T.size
  have T:=Tt T hb3
  refine RL.y rfl (Y.assign (v:=.bool false) rfl)<|RL.nil<|then_n<|wp_seq<|wp_rl rfl<|RL.y rfl (Y.move (v:=.string d0) s0) ?_
  obtain ⟨y5,e6,hm⟩:=bnd hm
  refine RL.call rfl (am2 rfl rfl) (by kernel_rfl) ((c_m_spec_l11Split d0 46 _ e6  _ ).mono ?_)
  rintro _ w10 ⟨⟨v7,rfl,G8⟩,hb11⟩
  refine ⟨_,rfl,?_⟩
  have szw10:=hb11.size
  have T0w10:=T.size
  have Zo9_ob4:=ap_ne (Ap.new (OwF.flo G8) (one_hi B2.lt))
  have B2:=blkT B2 hb11
  have T:=Tt T hb11
  replace G8:=OwF.mono G8 T0w10
  refine RL.y rfl (Y.assign (v:=v7) rfl)<|RL.nil<|then_n<|wp_seq<|wp_seq<|wp_rs rfl<|RQ.y rfl (Y.move (v:=v7) rfl) ?_
  obtain ⟨A12,c13,rfl⟩:=OwF.form G8
  have qbA12:=OwF.bound G8
  refine RQ.y rfl (Y.len (by kernel_rfl) rfl)<|RQ.y rfl (Y.binI (v:=.bool ((y5.length:Int) != 2)) rfl rfl rfl)<|RQ.nil<|then_n ?_
  rcases bcases ((y5.length:Int) != 2) with c14|c14
  ·replace hm:=cF c14 hm
   refine cond_f rfl (vb rfl c14)<|wp_skip<|then_n<|wp_seq<|wp_rb rfl<|RQ.y rfl (Y.move (v:=.slice A12 y5.length c13) rfl) ?_
   obtain ⟨x15,hx17,hm⟩:=bnd hm
   obtain ⟨k16,hk18,hl19,hx17⟩:=getI_some hx17
   obtain ⟨b20,rfl⟩:=OwF.addr0 G8 (by omega)
   refine RQ.y rfl (Y.indexAddr (m:=k16) (sz:=1) rfl rfl hk18 hl19 (by kernel_rfl))<|RQ.y rfl (Y.load (v:=.string x15) rfl (by kernel_rfl) (beC (OwF.cell fS G8 hx17 (j:=0) rfl))) ?_
   obtain ⟨y21,e22,hm⟩:=bnd hm
   refine RQ.call rfl (am1 rfl) (by kernel_rfl) (v:=.tuple #[.int .i64 y21.1,.bool y21.2]) (bel (K:=fun _=>True) fun w' hb'=>(c_m_spec_ReadDecimal x15 _ e22  w' ))<|RQ.y rfl (Y.move (v:=.tuple #[.int .i64 y21.1,.bool y21.2]) rfl)<|RQ.y rfl (Y.extract (i:=0) rfl rfl)<|RQ.y rfl (Y.extract (i:=1) rfl rfl)<|RQ.y rfl (Y.assign (v:=.int .i64 y21.1) rfl)<|RQ.y rfl (Y.assign (v:=.bool y21.2) rfl)<|RQ.nil ?_
   intro w23 hb24
   have szw23:=hb24.size
   have B2:=blkT B2 hb24
   have G8:=OwF.below G8 hb24
   have T:=Tt T hb24
   refine then_n<|wp_seq<|wp_rb rfl<|RQ.y rfl (Y.move (v:=.slice (some ⟨b20,0,none⟩) y5.length c13) rfl) ?_
   obtain ⟨x25,hx27,hm⟩:=bnd hm
   obtain ⟨k26,hk28,hl29,hx27⟩:=getI_some hx27
   refine RQ.y rfl (Y.indexAddr (m:=k26) (sz:=1) rfl rfl hk28 hl29 (by kernel_rfl))<|RQ.y rfl (Y.load (v:=.string x25) rfl (by kernel_rfl) (beC (OwF.cell fS G8 hx27 (j:=0) rfl))) ?_
   obtain ⟨y30,e31,hm⟩:=bnd hm
   refine RQ.call rfl (am1 rfl) (by kernel_rfl) (v:=.tuple #[.int .i64 y30.1,.bool y30.2]) (bel (K:=fun _=>True) fun w' hb'=>(c_m_spec_ReadDecimal x25 _ e31  w' ))<|RQ.y rfl (Y.move (v:=.tuple #[.int .i64 y30.1,.bool y30.2]) rfl)<|RQ.y rfl (Y.extract (i:=0) rfl rfl)<|RQ.y rfl (Y.extract (i:=1) rfl rfl)<|RQ.y rfl (Y.assign (v:=.int .i64 y30.1) rfl)<|RQ.y rfl (Y.assign (v:=.bool y30.2) rfl)<|RQ.nil ?_
   intro w32 hb33
   have szw32:=hb33.size
   have B2:=blkT B2 hb33
   have T:=Tt T hb33
   refine then_n<|wp_seq<|wp_rl rfl<|RL.y rfl (Y.move (v:=.int .i64 y21.1) rfl)<|RL.y rfl (Y.move (v:=.int .i64 y30.1) rfl)<|RL.y rfl (Y.build2 (cells:=#[.int .i64 y21.1,.int .i64 y30.1]) rfl rfl (by kernel_rfl) (by kernel_rfl))<|RL.y rfl (Y.move (v:=.bool y21.2) rfl)<|RL.y rfl (Y.move (v:=.bool y21.2) rfl) ?_
   rcases bcases y21.2 with c34|c34
   ·replace hm:=cF c34 hm
    refine RL.skip (wantN (dj:=33) rfl (vb rfl c34) rfl)<|RL.y rfl (Y.pick (b:=false) (v:=.bool false) (vb rfl c34) rfl) ?_
    refine RL.store (v:=.agg #[.int .i64 y21.1,.int .i64 y30.1]) (cs':=#[.int .i64 y21.1,.int .i64 y30.1]) rfl rfl rfl B2 (by kernel_rfl) (by rfl) (by rfl) (by rfl) (fun w35 B36 ho37=>?_)
    have szw35:=ho37.size
    have T:=T.trans (ho37.below (by first|(simp; done)|(simp; omega)))
    refine RL.y rfl (Y.assign (v:=.bool false) rfl)<|RL.nil<|then_n<|wp_ret ?_
    obtain rfl:=sj hm
    exact (retct (cs:=[.int .i64 y21.1,.int .i64 y30.1]) rfl rfl rfl rfl (by kernel_rfl) (blkCells B36) ⟨rfl,T⟩)
   replace hm:=cT c34 hm
   refine RL.y (wantT (dj:=33) rfl (vb rfl c34)) (Y.move (v:=.bool y30.2) rfl)<|RL.y rfl (Y.pick (b:=true) (v:=.bool y30.2) (vb rfl c34) rfl) ?_
   refine RL.store (v:=.agg #[.int .i64 y21.1,.int .i64 y30.1]) (cs':=#[.int .i64 y21.1,.int .i64 y30.1]) rfl rfl rfl B2 (by kernel_rfl) (by rfl) (by rfl) (by rfl) (fun w38 B39 ho40=>?_)
   have szw38:=ho40.size
   have T:=T.trans (ho40.below (by first|(simp; done)|(simp; omega)))
   refine RL.y rfl (Y.assign (v:=.bool y30.2) rfl)<|RL.nil<|then_n<|wp_ret ?_
   obtain rfl:=sj hm
   exact (retct (cs:=[.int .i64 y21.1,.int .i64 y30.1]) rfl rfl rfl rfl (by kernel_rfl) (blkCells B39) ⟨rfl,T⟩)
  replace hm:=cT c14 hm
  refine cond_t rfl (vb rfl c14)<|wp_seq<|wp_rl rfl<|RL.y rfl (Y.build0 (cells:=#[.int .i64 0,.int .i64 0])  (by kernel_rfl) (by kernel_rfl)) ?_
  refine RL.store (v:=.agg #[.int .i64 0,.int .i64 0]) (cs':=#[.int .i64 0,.int .i64 0]) rfl rfl rfl B2 (by kernel_rfl) (by rfl) (by rfl) (by rfl) (fun w41 B42 ho43=>?_)
  have szw41:=ho43.size
  have G8:=OwF.only G8 ho43 Zo9_ob4
  have T:=T.trans (ho43.below (by first|(simp; done)|(simp; omega)))
  refine RL.y rfl (Y.assign (v:=.bool false) rfl)<|RL.nil<|then_n<|wp_ret ?_
  obtain rfl:=sj hm
  exact (then_r (retct (cs:=[.int .i64 0,.int .i64 0]) rfl rfl rfl rfl (by kernel_rfl) (blkCells B42) ⟨rfl,T⟩))
def m_spec_l11ReadContent_A1 (z13:DAgent):Option (Bool × DAgent):=
  some (true,(⟨z13.kind,z13.level,z13.value,z13.data,z13.ports⟩:DAgent))
def m_spec_l11ReadContent_B1 (y1:List ByteArray) (rec1:Int→DAgent→Option (Bool × DAgent)) (K1:DAgent→Option (Bool × DAgent)) (i15:Int) (z16:DAgent):Option (Bool × DAgent):=
  (bif (decide (i15 < (y1.length:Int))) then ((getI y1 i15).bind fun x21=>((m_spec_ReadDecimal x21).bind fun y27=>(bif y27.2 then ((mustP (z16.data.length+([y27.1]).length≤4294967296)).bind fun _=>(rec1 (i15+1) (⟨z16.kind,z16.level,z16.value,(z16.data ++ [y27.1]),z16.ports⟩:DAgent))) else some (false,(⟨z16.kind,z16.level,z16.value,z16.data,z16.ports⟩:DAgent))))) else (K1 z16))
def m_spec_l11ReadContent_L1 (y1:List ByteArray) (K1:DAgent→Option (Bool × DAgent)):Nat→Int→DAgent→Option (Bool × DAgent)
  |0,_,_=>none
  |g+1,i15,z16=>m_spec_l11ReadContent_B1 y1 (m_spec_l11ReadContent_L1 y1 K1 g) K1 i15 z16
def m_spec_l11ReadContent_A2 (z68:DAgent):Option (Bool × DAgent):=
  some (true,(⟨z68.kind,z68.level,z68.value,z68.data,z68.ports⟩:DAgent))
def m_spec_l11ReadContent_B2 (y1:List ByteArray) (rec2:Int→DAgent→Option (Bool × DAgent)) (K2:DAgent→Option (Bool × DAgent)) (i70:Int) (z71:DAgent):Option (Bool × DAgent):=
  (bif (decide (i70 < (y1.length:Int))) then ((getI y1 i70).bind fun x74=>((m_spec_ReadDecimal x74).bind fun y79=>(bif y79.2 then ((mustP (z71.data.length+([y79.1]).length≤4294967296)).bind fun _=>(rec2 (i70+1) (⟨z71.kind,z71.level,z71.value,(z71.data ++ [y79.1]),z71.ports⟩:DAgent))) else some (false,(⟨z71.kind,z71.level,z71.value,z71.data,z71.ports⟩:DAgent))))) else (K2 z71))
def m_spec_l11ReadContent_L2 (y1:List ByteArray) (K2:DAgent→Option (Bool × DAgent)):Nat→Int→DAgent→Option (Bool × DAgent)
  |0,_,_=>none
  |g+1,i70,z71=>m_spec_l11ReadContent_B2 y1 (m_spec_l11ReadContent_L2 y1 K2 g) K2 i70 z71
def m_spec_l11ReadContent_A3 (z120:DAgent):Option (Bool × DAgent):=
  some (true,(⟨z120.kind,z120.level,z120.value,z120.data,z120.ports⟩:DAgent))
def m_spec_l11ReadContent_B3 (y1:List ByteArray) (rec3:Int→DAgent→Option (Bool × DAgent)) (K3:DAgent→Option (Bool × DAgent)) (i122:Int) (z123:DAgent):Option (Bool × DAgent):=
  (bif (decide (i122 < (y1.length:Int))) then ((getI y1 i122).bind fun x126=>((m_spec_ReadDecimal x126).bind fun y131=>(bif y131.2 then ((mustP (z123.data.length+([y131.1]).length≤4294967296)).bind fun _=>(rec3 (i122+1) (⟨z123.kind,z123.level,z123.value,(z123.data ++ [y131.1]),z123.ports⟩:DAgent))) else some (false,(⟨z123.kind,z123.level,z123.value,z123.data,z123.ports⟩:DAgent))))) else (K3 z123))
def m_spec_l11ReadContent_L3 (y1:List ByteArray) (K3:DAgent→Option (Bool × DAgent)):Nat→Int→DAgent→Option (Bool × DAgent)
  |0,_,_=>none
  |g+1,i122,z123=>m_spec_l11ReadContent_B3 y1 (m_spec_l11ReadContent_L3 y1 K3 g) K3 i122 z123
def m_spec_l11ReadContent_Aj1 (d0:DAgent) (d1:ByteArray) (y1:List ByteArray) (b8:Bool):Option (Bool × DAgent):=
  (bif b8 then ((m_spec_ReadDecimal d1).bind fun y157=>some (y157.2,(⟨d0.kind,d0.level,y157.1,[],[]⟩:DAgent))) else (bif (d0.kind==7) then ((getI y1 0).bind fun x107=>((m_spec_OperatorOf x107).bind fun y113=>(m_spec_l11ReadContent_L3 y1 m_spec_l11ReadContent_A3 (y1.length+1) 1 (⟨d0.kind,d0.level,y113,[],[]⟩:DAgent)))) else (bif (d0.kind==8) then ((getI y1 0).bind fun x55=>((m_spec_OperatorOf x55).bind fun y61=>(m_spec_l11ReadContent_L2 y1 m_spec_l11ReadContent_A2 (y1.length+1) 1 (⟨d0.kind,d0.level,y61,[],[]⟩:DAgent)))) else (m_spec_l11ReadContent_L1 y1 m_spec_l11ReadContent_A1 (y1.length+1) 0 (⟨d0.kind,d0.level,d0.value,[],[]⟩:DAgent)))))
def m_spec_l11ReadContent (d0:DAgent) (d1:ByteArray):Option (Bool × DAgent):=
  ((m_spec_l11Split d1 44).bind fun y1=>(bif (d0.kind==6) then (m_spec_l11ReadContent_Aj1 d0 d1 y1 (d0.kind==6)) else (bif (d0.kind==9) then (m_spec_l11ReadContent_Aj1 d0 d1 y1 (d0.kind==9)) else (m_spec_l11ReadContent_Aj1 d0 d1 y1 (d0.kind==12)))))
set_option maxHeartbeats 2000000 in
theorem c_m_spec_l11ReadContent (d0:DAgent) (d1:ByteArray) (r:Bool × DAgent) (hm:m_spec_l11ReadContent d0 d1=some r)  (w ws:World) (hT0:Below w.heap.size w ws)  (pc0:Nat) (hv0:Blk ws pc0 49 #[.int .i64 d0.kind,.int .i64 d0.level,.int .i64 d0.value,.slice none 0 0,.slice none 0 0]) (hl0:w.heap.size≤pc0) :
    Calls Tryz.prog 43 #[.pointer (some ⟨pc0,0,none⟩),.string d1] ws fun e w'=>(∃(u0:Value) (u1:Value),e=.returned (.bool r.1)∧OwF 2 encI 1 w' ws.heap.size u0 r.2.data∧OwF 61 encPort 2 w' ws.heap.size u1 r.2.ports∧Dj u0 u1∧Blk w' pc0 49 #[.int .i64 r.2.kind,.int .i64 r.2.level,.int .i64 r.2.value,u0,u1])∧KeepV (.slice (some ⟨pc0,0,none⟩) 1 1) (.slice (some ⟨pc0,0,none⟩) 1 1) ws w'∧Below w.heap.size w w':=by
  have T:=hT0
  have LW:=hT0.size
  have K:=KeepV.refl (.slice (some ⟨pc0,0,none⟩) 1 1) (.slice (some ⟨pc0,0,none⟩) 1 1) ws
  unfold m_spec_l11ReadContent at hm
  refine enter 69 Tryz.func43 rfl rfl rfl ?_
  intro f hf
  have s0:f 0=.pointer (some ⟨pc0,0,none⟩):=hf 0 _ rfl
  have s1:f 1=.string d1:=hf 1 _ rfl
  refine wp_seq<|wp_rs rfl<|RQ.y rfl (Y.assign (v:=.bool false) rfl)<|RQ.nil<|then_n<|wp_seq<|wp_rl rfl<|RL.y rfl (Y.move (v:=.string d1) s1) ?_
  obtain ⟨y1,e2,hm⟩:=bnd hm
  refine RL.call rfl (am2 rfl rfl) (by kernel_rfl) ((c_m_spec_l11Split d1 44 _ e2  _ ).mono ?_)
  rintro _ w6 ⟨⟨v3,rfl,G4⟩,hb7⟩
  refine ⟨_,rfl,?_⟩
  have szw6:=hb7.size
  have T0w6:=K.size
  have Zo5_obp0:=ap_ne (Ap.new (OwF.flo G4) (one_hi hv0.lt))
  have hv0:=blkT hv0 hb7
  have K:=KeepV.below K hb7
  have T:=Tt T hb7
  replace G4:=OwF.mono G4 T0w6
  refine RL.y rfl (Y.assign (v:=v3) rfl)<|RL.nil<|then_n<|wp_seq<|wp_rs rfl<|RQ.y rfl (Y.assign (v:=.int .i64 0) rfl)<|RQ.nil<|then_n<|wp_seq<|wp_seq<|wp_rs rfl<|RQ.y rfl (Y.move (v:=.pointer (some ⟨pc0,0,none⟩)) s0)<|RQ.y rfl (Y.nilCheck rfl)<|RQ.y rfl (Y.fieldAddr (off:=0) rfl (by kernel_rfl))<|RQ.y rfl (Y.load (v:=.int .i64 d0.kind) rfl (by kernel_rfl) (eqC (blkCell hv0 (i:=0) rfl)))<|RQ.nil<|then_n<|wp_block<|cutRest (K:=(fun f w'=>∃(b8:Bool),f 0=.pointer (some ⟨pc0,0,none⟩)∧f 1=.string d1∧f 5=v3∧f 6=.int .i64 0∧f 17=.int .i64 d0.kind∧f 18=.bool b8∧Blk w' pc0 49 #[.int .i64 d0.kind,.int .i64 d0.level,.int .i64 d0.value,.slice none 0 0,.slice none 0 0]∧OwF 9 encS 1 w' ws.heap.size v3 y1∧KeepV (.slice (some ⟨pc0,0,none⟩) 1 1) (.slice (some ⟨pc0,0,none⟩) 1 1) ws w'∧Below w.heap.size w w'∧m_spec_l11ReadContent_Aj1 d0 d1 y1 b8=some r)) ?_ ?_
  ·rintro f w9 ⟨b8,s0_j1x,s1_j1x,s5_j1x,s6_j1x,s17_j1x,s18_j1x,hv0,G4,K,T,hm⟩
   unfold m_spec_l11ReadContent_Aj1 at hm
   rcases bcases b8 with c10|c10
   ·replace hm:=cF c10 hm
    refine cond_f rfl (vb s18_j1x c10)<|wp_seq<|wp_seq<|wp_rs rfl<|RQ.y rfl (Y.binI (v:=.bool (d0.kind==7)) s17_j1x rfl rfl)<|RQ.y rfl (Y.assign (v:=.bool (d0.kind==7)) rfl)<|RQ.nil<|then_n ?_
    rcases bcases (d0.kind==7) with c11|c11
    ·replace hm:=cF c11 hm
     refine cond_f rfl (vb rfl c11)<|wp_rs rfl<|RQ.y rfl (Y.binI (v:=.bool (d0.kind==8)) s17_j1x rfl rfl)<|RQ.y rfl (Y.assign (v:=.bool (d0.kind==8)) rfl)<|RQ.nil<|then_n ?_
     rcases bcases (d0.kind==8) with c12|c12
     ·replace hm:=cF c12 hm
      refine cond_f rfl (vb rfl c12)<|wp_skip ?_
      refine blk_n (then_n ?_)
      refine wp_seq<|wp_seq<|wp_rs rfl<|RQ.y rfl (Y.move (v:=.int .i64 0) s6_j1x)<|RQ.y rfl (Y.assign (v:=.int .i64 0) rfl)<|RQ.nil<|then_n<|wp_block ?_
      obtain ⟨K1,hK1,hm⟩ :∃K,K=m_spec_l11ReadContent_A1∧m_spec_l11ReadContent_L1 y1 K (y1.length+1) 0 (⟨d0.kind,d0.level,d0.value,[],[]⟩:DAgent)=some r:=⟨_,rfl,hm⟩
      refine wp_loopX (fun g f w'=>∃(i15:Int) (z16:DAgent) (uz16_0:Value) (uz16_1:Value),f 0=.pointer (some ⟨pc0,0,none⟩)∧f 5=v3∧f 9=.int .i64 i15∧0≤i15∧Blk w' pc0 49 #[.int .i64 z16.kind,.int .i64 z16.level,.int .i64 z16.value,uz16_0,uz16_1]∧OwF 2 encI 1 w' ws.heap.size uz16_0 z16.data∧OwF 61 encPort 2 w' ws.heap.size uz16_1 z16.ports∧Dj uz16_0 v3∧Value.ownBlock uz16_0 ≠ some pc0∧Dj uz16_1 uz16_0∧Dj uz16_1 v3∧Value.ownBlock uz16_1 ≠ some pc0∧OwF 9 encS 1 w' ws.heap.size v3 y1∧KeepV (.slice (some ⟨pc0,0,none⟩) 1 1) (.slice (some ⟨pc0,0,none⟩) 1 1) ws w'∧Below w.heap.size w w'∧m_spec_l11ReadContent_L1 y1 K1 g i15 z16=some r) 1 (fun f w'=>∃(z13:DAgent) (uz13_0:Value) (uz13_1:Value),f 0=.pointer (some ⟨pc0,0,none⟩)∧Blk w' pc0 49 #[.int .i64 z13.kind,.int .i64 z13.level,.int .i64 z13.value,uz13_0,uz13_1]∧OwF 2 encI 1 w' ws.heap.size uz13_0 z13.data∧OwF 61 encPort 2 w' ws.heap.size uz13_1 z13.ports∧Value.ownBlock uz13_0 ≠ some pc0∧Dj uz13_1 uz13_0∧Value.ownBlock uz13_1 ≠ some pc0∧KeepV (.slice (some ⟨pc0,0,none⟩) 1 1) (.slice (some ⟨pc0,0,none⟩) 1 1) ws w'∧Below w.heap.size w w'∧m_spec_l11ReadContent_A1 z13=some r) (y1.length+1) ⟨0,(⟨d0.kind,d0.level,d0.value,[],[]⟩:DAgent),(.slice none 0 0),(.slice none 0 0),s0_j1x,s5_j1x,rfl,(by omega),hv0,OwF.nil,OwF.nil,Dj.nil,nilNe (b:=pc0),Dj.nil,Dj.nil,nilNe (b:=pc0),G4,K,T,hm⟩ ?_ ?_
      ·rintro f w14 ⟨z13,uz13_0,uz13_1,s0_1x,Bz13,Guz13_0,Guz13_1,Noz13_0_obp0,Doz13_1_oz13_0,Noz13_1_obp0,K,T,hm⟩
       unfold m_spec_l11ReadContent_A1 at hm
       refine blk_hit (then_n ?_)
       refine wp_seq<|wp_rs rfl<|RQ.y rfl (Y.assign (v:=.bool true) rfl)<|RQ.nil<|then_n<|wp_ret ?_
       obtain rfl:=sj hm
       exact (ret1 rfl rfl rfl ⟨⟨_,_,rfl,Guz13_0,Guz13_1,(Ap.dj (Ap.symm (Dj.ap Doz13_1_oz13_0))),Bz13⟩,K,T⟩)
      rintro g f w17 ⟨i15,z16,uz16_0,uz16_1,s0_1,s5_1,s9_1,nn9_1,Bz16,Guz16_0,Guz16_1,Doz16_0_o5,Noz16_0_obp0,Doz16_1_oz16_0,Doz16_1_o5,Noz16_1_obp0,G4,K,T,hm⟩
      rcases g with _|g
      ·simp only [m_spec_l11ReadContent_L1] at hm; cases hm
      obtain ⟨rec1,hrec1,hm⟩ :∃z,z=m_spec_l11ReadContent_L1 y1 K1 g∧m_spec_l11ReadContent_B1 y1 z K1 i15 z16=some r:=⟨_,rfl,hm⟩
      unfold m_spec_l11ReadContent_B1 at hm
      refine wp_seq<|wp_seq<|wp_rs rfl<|RQ.y rfl (Y.move (v:=.int .i64 i15) s9_1)<|RQ.y rfl (Y.move (v:=v3) s5_1) ?_
      obtain ⟨A18,c19,rfl⟩:=OwF.form G4
      have qbA18:=OwF.bound G4
      refine RQ.y rfl (Y.len (by kernel_rfl) rfl)<|RQ.y rfl (Y.binI (v:=.bool (decide (i15 < (y1.length:Int)))) rfl rfl rfl)<|RQ.nil<|then_n ?_
      rcases bcases (decide (i15 < (y1.length:Int))) with c20|c20
      ·replace hm:=cF c20 hm
       have pc20:=of_decide_eq_false c20
       refine cond_f rfl (vb rfl c20)<|wp_exit ?_
       exact (then_x (then_x (hit_x ⟨_,rfl,⟨z16,(uz16_0),(uz16_1),s0_1,Bz16,Guz16_0,Guz16_1,(ap_ne (ne_ap Noz16_0_obp0)),(Ap.dj (Dj.ap Doz16_1_oz16_0)),(ap_ne (ne_ap Noz16_1_obp0)),K,T,(by rw [hK1] at hm; exact hm)⟩⟩)))
      replace hm:=cT c20 hm
      have pc20:=of_decide_eq_true c20
      refine cond_t rfl (vb rfl c20)<|wp_skip<|then_n<|wp_seq<|wp_block<|wp_seq<|wp_rb rfl<|RQ.y rfl (Y.move (v:=.slice A18 y1.length c19) s5_1)<|RQ.y rfl (Y.move (v:=.int .i64 i15) s9_1) ?_
      obtain ⟨x21,hx23,hm⟩:=bnd hm
      obtain ⟨k22,hk24,hl25,hx23⟩:=getI_some hx23
      obtain ⟨b26,rfl⟩:=OwF.addr0 G4 (by omega)
      refine RQ.y rfl (Y.indexAddr (m:=k22) (sz:=1) rfl rfl hk24 hl25 (by kernel_rfl))<|RQ.y rfl (Y.load (v:=.string x21) rfl (by kernel_rfl) (beC (OwF.cell fS G4 hx23 (j:=0) rfl))) ?_
      obtain ⟨y27,e28,hm⟩:=bnd hm
      refine RQ.call rfl (am1 rfl) (by kernel_rfl) (v:=.tuple #[.int .i64 y27.1,.bool y27.2]) (bel (K:=fun _=>True) fun w' hb'=>(c_m_spec_ReadDecimal x21 _ e28  w' ))<|RQ.y rfl (Y.move (v:=.tuple #[.int .i64 y27.1,.bool y27.2]) rfl)<|RQ.y rfl (Y.extract (i:=0) rfl rfl)<|RQ.y rfl (Y.extract (i:=1) rfl rfl)<|RQ.y rfl (Y.assign (v:=.int .i64 y27.1) rfl)<|RQ.y rfl (Y.assign (v:=.bool y27.2) rfl)<|RQ.nil ?_
      intro w29 hb30
      have szw29:=hb30.size
      have Bz16:=blkT Bz16 hb30
      have G4:=OwF.below G4 hb30
      have Guz16_0:=OwF.below Guz16_0 hb30
      have Guz16_1:=OwF.below Guz16_1 hb30
      have K:=KeepV.below K hb30
      have T:=Tt T hb30
      refine then_n<|wp_seq<|wp_seq<|wp_rs rfl<|RQ.y rfl (Y.move (v:=.bool y27.2) rfl)<|RQ.y rfl (Y.not (b':=(!y27.2)) rfl rfl)<|RQ.nil<|then_n ?_
      rcases bcases y27.2 with c31|c31
      ·replace hm:=cF c31 hm
       refine cond_t rfl (vbn rfl c31 rfl)<|wp_seq<|wp_rs rfl<|RQ.y rfl (Y.assign (v:=.bool false) rfl)<|RQ.nil<|then_n<|wp_ret ?_
       obtain rfl:=sj hm
       exact (then_r (blk_r (then_r (then_r (hit_r (blk_r (then_r (ret1 rfl rfl rfl ⟨⟨_,_,rfl,Guz16_0,Guz16_1,(Ap.dj (Ap.symm (Dj.ap Doz16_1_oz16_0))),Bz16⟩,K,T⟩))))))))
      replace hm:=cT c31 hm
      refine cond_f rfl (vbn rfl c31 rfl)<|wp_skip<|then_n<|wp_rl rfl<|RL.y rfl (Y.move (v:=.pointer (some ⟨pc0,0,none⟩)) s0_1)<|RL.y rfl (Y.move (v:=.pointer (some ⟨pc0,0,none⟩)) s0_1)<|RL.y rfl (Y.nilCheck rfl)<|RL.y rfl (Y.fieldAddr (off:=3) rfl (by kernel_rfl))<|RL.y rfl (Y.load (v:=uz16_0) rfl (by kernel_rfl) (eqC (blkCell Bz16 (i:=3) rfl)))<|RL.y rfl (Y.move (v:=.int .i64 y27.1) rfl) ?_
      refine RL.bslice (e:=2) (cells:=#[.int .i64 y27.1]) rfl (pm1 rfl) (by kernel_rfl) (fun w32 B33 hb34 szw32=>?_)
      have ZB33:ws.heap.size≤w29.heap.size:=K.size
      have No35_obp0:=litNe (n:=1) (c:=1) Bz16.lt
      have Do35_o5:=Dj.new (v:=.slice (some ⟨w29.heap.size,0,none⟩) 1 1) litGe (OwF.hi G4)
      have Do35_oz16_0:=Dj.new (v:=.slice (some ⟨w29.heap.size,0,none⟩) 1 1) litGe (OwF.hi Guz16_0)
      have Do35_oz16_1:=Dj.new (v:=.slice (some ⟨w29.heap.size,0,none⟩) 1 1) litGe (OwF.hi Guz16_1)
      have Bz16:=blkT Bz16 hb34
      have G4:=OwF.below G4 hb34
      have Guz16_0:=OwF.below Guz16_0 hb34
      have Guz16_1:=OwF.below Guz16_1 hb34
      have K:=KeepV.below K hb34
      have T:=Tt T hb34
      have G36:=OwF.lit (enc:=encI) (sz:=1) (xs:=[y27.1]) B33 ZB33 rfl rfl rfl rfl
      obtain ⟨_,m38,hm⟩:=bnd hm
      have hk39:=mustP_some m38
      refine RL.append fI app_int64 rfl rfl rfl Guz16_0 (OwF.arg fI G36) K.size hk39 (fun v40 w41 G42 hgr43 hbl44 hnb45=>?_)
      have szw41:=hbl44.size
      have No46_obp0:=ne_app hnb45 Noz16_0_obp0 Bz16.lt
      have Do46_o5:=Dj.app Doz16_0_o5 hnb45 (OwF.hi G4)
      have Do46_oz16_1:=Dj.app (Dj.symm Doz16_1_oz16_0) hnb45 (OwF.hi Guz16_1)
      have Bz16:=Blk.kept Bz16 hgr43 Noz16_0_obp0
      have G4:=OwF.keptD G4 hgr43 (Dj.symm Doz16_0_o5)
      have Guz16_1:=OwF.keptD Guz16_1 hgr43 Doz16_1_oz16_0
      have K:=KeepV.belowLo K hbl44
      have T:=T.trans (Below.weak LW hbl44)
      refine RL.y rfl (Y.nilCheck rfl)<|RL.y rfl (Y.fieldAddr (off:=3) rfl (by kernel_rfl)) ?_
      obtain ⟨A47,c48,rfl⟩:=OwF.form G42
      have qbA47:=OwF.bound G42
      refine RL.store (v:=.slice A47 ((z16.data ++ [y27.1]).length) c48) (cs':=#[.int .i64 z16.kind,.int .i64 z16.level,.int .i64 z16.value,.slice A47 ((z16.data ++ [y27.1]).length) c48,uz16_1]) rfl rfl rfl Bz16 (by kernel_rfl) (by rfl) (by rfl) (by rfl) (fun w49 B50 ho51=>?_)
      have szw49:=ho51.size
      have G4:=OwF.only G4 ho51 Zo5_obp0
      have Guz16_1:=OwF.only Guz16_1 ho51 Noz16_1_obp0
      have G42:=OwF.only G42 ho51 No46_obp0
      have K:=KeepV.only1 K ho51 rfl
      have T:=T.trans (ho51.below (by first|(simp; done)|(simp; omega)))
      refine RL.nil ?_
      refine blk_n (then_n ?_)
      refine wp_rs rfl<|RQ.y rfl (Y.move (v:=.int .i64 i15) s9_1)<|RQ.y rfl (Y.binI rfl rfl (binI_add (m:=i15) (by omega)))<|RQ.y rfl (Y.assign (v:=.int .i64 (i15+1)) rfl)<|RQ.nil ?_
      exact (then_n ⟨g,_,Nat.lt_succ_self _,rfl,⟨(i15+1),(⟨z16.kind,z16.level,z16.value,(z16.data ++ [y27.1]),z16.ports⟩:DAgent),(.slice A47 ((z16.data ++ [y27.1]).length) c48),(uz16_1),s0_1,s5_1,rfl,(by omega),B50,G42,Guz16_1,(Ap.dj (Dj.ap Do46_o5)),(ap_ne (ne_ap No46_obp0)),(Ap.dj (Ap.symm (Dj.ap Do46_oz16_1))),(Ap.dj (Dj.ap Doz16_1_o5)),(ap_ne (ne_ap Noz16_1_obp0)),G4,K,T,(by rw [← hrec1]; exact hm)⟩⟩)
     replace hm:=cT c12 hm
     refine cond_t rfl (vb rfl c12)<|wp_seq<|wp_rl rfl<|RL.y rfl (Y.move (v:=.pointer (some ⟨pc0,0,none⟩)) s0_j1x)<|RL.y rfl (Y.move (v:=v3) s5_j1x) ?_
     obtain ⟨A53,c54,rfl⟩:=OwF.form G4
     have qbA53:=OwF.bound G4
     obtain ⟨x55,hx57,hm⟩:=bnd hm
     obtain ⟨k56,hk58,hl59,hx57⟩:=getI_some hx57
     obtain ⟨b60,rfl⟩:=OwF.addr0 G4 (by omega)
     refine RL.y rfl (Y.indexAddr (m:=k56) (sz:=1) rfl rfl hk58 hl59 (by kernel_rfl))<|RL.y rfl (Y.load (v:=.string x55) rfl (by kernel_rfl) (eqC (OwF.cell fS G4 hx57 (j:=0) rfl))) ?_
     obtain ⟨y61,e62,hm⟩:=bnd hm
     refine RL.call rfl (am1 rfl) (by kernel_rfl) ((c_m_spec_OperatorOf x55 _ e62  _ ).mono ?_)
     rintro _ w63 ⟨rfl,hb64⟩
     refine ⟨_,rfl,?_⟩
     have szw63:=hb64.size
     have hv0:=blkT hv0 hb64
     have G4:=OwF.below G4 hb64
     have K:=KeepV.below K hb64
     have T:=Tt T hb64
     refine RL.y rfl (Y.nilCheck rfl)<|RL.y rfl (Y.fieldAddr (off:=2) rfl (by kernel_rfl)) ?_
     refine RL.store (v:=.int .i64 y61) (cs':=#[.int .i64 d0.kind,.int .i64 d0.level,.int .i64 y61,.slice none 0 0,.slice none 0 0]) rfl rfl rfl hv0 (by kernel_rfl) (by rfl) (by rfl) (by rfl) (fun w65 B66 ho67=>?_)
     have szw65:=ho67.size
     have G4:=OwF.only G4 ho67 Zo5_obp0
     have K:=KeepV.only1 K ho67 rfl
     have T:=T.trans (ho67.below (by first|(simp; done)|(simp; omega)))
     refine RL.nil<|then_n<|wp_rs rfl<|RQ.y rfl (Y.assign (v:=.int .i64 1) rfl)<|RQ.nil ?_
     refine blk_n (then_n ?_)
     refine wp_seq<|wp_seq<|wp_rs rfl<|RQ.y rfl (Y.move (v:=.int .i64 1) rfl)<|RQ.y rfl (Y.assign (v:=.int .i64 1) rfl)<|RQ.nil<|then_n<|wp_block ?_
     obtain ⟨K2,hK2,hm⟩ :∃K,K=m_spec_l11ReadContent_A2∧m_spec_l11ReadContent_L2 y1 K (y1.length+1) 1 (⟨d0.kind,d0.level,y61,[],[]⟩:DAgent)=some r:=⟨_,rfl,hm⟩
     refine wp_loopX (fun g f w'=>∃(i70:Int) (z71:DAgent) (uz71_0:Value) (uz71_1:Value),f 0=.pointer (some ⟨pc0,0,none⟩)∧f 5=.slice (some ⟨b60,0,none⟩) y1.length c54∧f 9=.int .i64 i70∧0≤i70∧Blk w' pc0 49 #[.int .i64 z71.kind,.int .i64 z71.level,.int .i64 z71.value,uz71_0,uz71_1]∧OwF 2 encI 1 w' ws.heap.size uz71_0 z71.data∧OwF 61 encPort 2 w' ws.heap.size uz71_1 z71.ports∧Dj uz71_0 (.slice (some ⟨b60,0,none⟩) y1.length c54)∧Value.ownBlock uz71_0 ≠ some pc0∧Dj uz71_1 uz71_0∧Dj uz71_1 (.slice (some ⟨b60,0,none⟩) y1.length c54)∧Value.ownBlock uz71_1 ≠ some pc0∧OwF 9 encS 1 w' ws.heap.size (.slice (some ⟨b60,0,none⟩) y1.length c54) y1∧KeepV (.slice (some ⟨pc0,0,none⟩) 1 1) (.slice (some ⟨pc0,0,none⟩) 1 1) ws w'∧Below w.heap.size w w'∧m_spec_l11ReadContent_L2 y1 K2 g i70 z71=some r) 1 (fun f w'=>∃(z68:DAgent) (uz68_0:Value) (uz68_1:Value),f 0=.pointer (some ⟨pc0,0,none⟩)∧Blk w' pc0 49 #[.int .i64 z68.kind,.int .i64 z68.level,.int .i64 z68.value,uz68_0,uz68_1]∧OwF 2 encI 1 w' ws.heap.size uz68_0 z68.data∧OwF 61 encPort 2 w' ws.heap.size uz68_1 z68.ports∧Value.ownBlock uz68_0 ≠ some pc0∧Dj uz68_1 uz68_0∧Value.ownBlock uz68_1 ≠ some pc0∧KeepV (.slice (some ⟨pc0,0,none⟩) 1 1) (.slice (some ⟨pc0,0,none⟩) 1 1) ws w'∧Below w.heap.size w w'∧m_spec_l11ReadContent_A2 z68=some r) (y1.length+1) ⟨1,(⟨d0.kind,d0.level,y61,[],[]⟩:DAgent),(.slice none 0 0),(.slice none 0 0),s0_j1x,s5_j1x,rfl,(by omega),B66,OwF.nil,OwF.nil,Dj.nil,nilNe (b:=pc0),Dj.nil,Dj.nil,nilNe (b:=pc0),G4,K,T,hm⟩ ?_ ?_
     ·rintro f w69 ⟨z68,uz68_0,uz68_1,s0_2x,Bz68,Guz68_0,Guz68_1,Noz68_0_obp0,Doz68_1_oz68_0,Noz68_1_obp0,K,T,hm⟩
      unfold m_spec_l11ReadContent_A2 at hm
      refine blk_hit (then_n ?_)
      refine wp_seq<|wp_rs rfl<|RQ.y rfl (Y.assign (v:=.bool true) rfl)<|RQ.nil<|then_n<|wp_ret ?_
      obtain rfl:=sj hm
      exact (ret1 rfl rfl rfl ⟨⟨_,_,rfl,Guz68_0,Guz68_1,(Ap.dj (Ap.symm (Dj.ap Doz68_1_oz68_0))),Bz68⟩,K,T⟩)
     rintro g f w72 ⟨i70,z71,uz71_0,uz71_1,s0_2,s5_2,s9_2,nn9_2,Bz71,Guz71_0,Guz71_1,Doz71_0_o5,Noz71_0_obp0,Doz71_1_oz71_0,Doz71_1_o5,Noz71_1_obp0,G4,K,T,hm⟩
     rcases g with _|g
     ·simp only [m_spec_l11ReadContent_L2] at hm; cases hm
     obtain ⟨rec2,hrec2,hm⟩ :∃z,z=m_spec_l11ReadContent_L2 y1 K2 g∧m_spec_l11ReadContent_B2 y1 z K2 i70 z71=some r:=⟨_,rfl,hm⟩
     unfold m_spec_l11ReadContent_B2 at hm
     refine wp_seq<|wp_seq<|wp_rs rfl<|RQ.y rfl (Y.move (v:=.int .i64 i70) s9_2)<|RQ.y rfl (Y.move (v:=.slice (some ⟨b60,0,none⟩) y1.length c54) s5_2)<|RQ.y rfl (Y.len (by kernel_rfl) rfl)<|RQ.y rfl (Y.binI (v:=.bool (decide (i70 < (y1.length:Int)))) rfl rfl rfl)<|RQ.nil<|then_n ?_
     rcases bcases (decide (i70 < (y1.length:Int))) with c73|c73
     ·replace hm:=cF c73 hm
      have pc73:=of_decide_eq_false c73
      refine cond_f rfl (vb rfl c73)<|wp_exit ?_
      exact (then_x (then_x (hit_x ⟨_,rfl,⟨z71,(uz71_0),(uz71_1),s0_2,Bz71,Guz71_0,Guz71_1,(ap_ne (ne_ap Noz71_0_obp0)),(Ap.dj (Dj.ap Doz71_1_oz71_0)),(ap_ne (ne_ap Noz71_1_obp0)),K,T,(by rw [hK2] at hm; exact hm)⟩⟩)))
     replace hm:=cT c73 hm
     have pc73:=of_decide_eq_true c73
     refine cond_t rfl (vb rfl c73)<|wp_skip<|then_n<|wp_seq<|wp_block<|wp_seq<|wp_rb rfl<|RQ.y rfl (Y.move (v:=.slice (some ⟨b60,0,none⟩) y1.length c54) s5_2)<|RQ.y rfl (Y.move (v:=.int .i64 i70) s9_2) ?_
     obtain ⟨x74,hx76,hm⟩:=bnd hm
     obtain ⟨k75,hk77,hl78,hx76⟩:=getI_some hx76
     refine RQ.y rfl (Y.indexAddr (m:=k75) (sz:=1) rfl rfl hk77 hl78 (by kernel_rfl))<|RQ.y rfl (Y.load (v:=.string x74) rfl (by kernel_rfl) (beC (OwF.cell fS G4 hx76 (j:=0) rfl))) ?_
     obtain ⟨y79,e80,hm⟩:=bnd hm
     refine RQ.call rfl (am1 rfl) (by kernel_rfl) (v:=.tuple #[.int .i64 y79.1,.bool y79.2]) (bel (K:=fun _=>True) fun w' hb'=>(c_m_spec_ReadDecimal x74 _ e80  w' ))<|RQ.y rfl (Y.move (v:=.tuple #[.int .i64 y79.1,.bool y79.2]) rfl)<|RQ.y rfl (Y.extract (i:=0) rfl rfl)<|RQ.y rfl (Y.extract (i:=1) rfl rfl)<|RQ.y rfl (Y.assign (v:=.int .i64 y79.1) rfl)<|RQ.y rfl (Y.assign (v:=.bool y79.2) rfl)<|RQ.nil ?_
     intro w81 hb82
     have szw81:=hb82.size
     have Bz71:=blkT Bz71 hb82
     have G4:=OwF.below G4 hb82
     have Guz71_0:=OwF.below Guz71_0 hb82
     have Guz71_1:=OwF.below Guz71_1 hb82
     have K:=KeepV.below K hb82
     have T:=Tt T hb82
     refine then_n<|wp_seq<|wp_seq<|wp_rs rfl<|RQ.y rfl (Y.move (v:=.bool y79.2) rfl)<|RQ.y rfl (Y.not (b':=(!y79.2)) rfl rfl)<|RQ.nil<|then_n ?_
     rcases bcases y79.2 with c83|c83
     ·replace hm:=cF c83 hm
      refine cond_t rfl (vbn rfl c83 rfl)<|wp_seq<|wp_rs rfl<|RQ.y rfl (Y.assign (v:=.bool false) rfl)<|RQ.nil<|then_n<|wp_ret ?_
      obtain rfl:=sj hm
      exact (then_r (blk_r (then_r (then_r (hit_r (blk_r (then_r (ret1 rfl rfl rfl ⟨⟨_,_,rfl,Guz71_0,Guz71_1,(Ap.dj (Ap.symm (Dj.ap Doz71_1_oz71_0))),Bz71⟩,K,T⟩))))))))
     replace hm:=cT c83 hm
     refine cond_f rfl (vbn rfl c83 rfl)<|wp_skip<|then_n<|wp_rl rfl<|RL.y rfl (Y.move (v:=.pointer (some ⟨pc0,0,none⟩)) s0_2)<|RL.y rfl (Y.move (v:=.pointer (some ⟨pc0,0,none⟩)) s0_2)<|RL.y rfl (Y.nilCheck rfl)<|RL.y rfl (Y.fieldAddr (off:=3) rfl (by kernel_rfl))<|RL.y rfl (Y.load (v:=uz71_0) rfl (by kernel_rfl) (eqC (blkCell Bz71 (i:=3) rfl)))<|RL.y rfl (Y.move (v:=.int .i64 y79.1) rfl) ?_
     refine RL.bslice (e:=2) (cells:=#[.int .i64 y79.1]) rfl (pm1 rfl) (by kernel_rfl) (fun w84 B85 hb86 szw84=>?_)
     have ZB85:ws.heap.size≤w81.heap.size:=K.size
     have No87_obp0:=litNe (n:=1) (c:=1) Bz71.lt
     have Do87_o5:=Dj.new (v:=.slice (some ⟨w81.heap.size,0,none⟩) 1 1) litGe (OwF.hi G4)
     have Do87_oz71_0:=Dj.new (v:=.slice (some ⟨w81.heap.size,0,none⟩) 1 1) litGe (OwF.hi Guz71_0)
     have Do87_oz71_1:=Dj.new (v:=.slice (some ⟨w81.heap.size,0,none⟩) 1 1) litGe (OwF.hi Guz71_1)
     have Bz71:=blkT Bz71 hb86
     have G4:=OwF.below G4 hb86
     have Guz71_0:=OwF.below Guz71_0 hb86
     have Guz71_1:=OwF.below Guz71_1 hb86
     have K:=KeepV.below K hb86
     have T:=Tt T hb86
     have G88:=OwF.lit (enc:=encI) (sz:=1) (xs:=[y79.1]) B85 ZB85 rfl rfl rfl rfl
     obtain ⟨_,m90,hm⟩:=bnd hm
     have hk91:=mustP_some m90
     refine RL.append fI app_int64 rfl rfl rfl Guz71_0 (OwF.arg fI G88) K.size hk91 (fun v92 w93 G94 hgr95 hbl96 hnb97=>?_)
     have szw93:=hbl96.size
     have No98_obp0:=ne_app hnb97 Noz71_0_obp0 Bz71.lt
     have Do98_o5:=Dj.app Doz71_0_o5 hnb97 (OwF.hi G4)
     have Do98_oz71_1:=Dj.app (Dj.symm Doz71_1_oz71_0) hnb97 (OwF.hi Guz71_1)
     have Bz71:=Blk.kept Bz71 hgr95 Noz71_0_obp0
     have G4:=OwF.keptD G4 hgr95 (Dj.symm Doz71_0_o5)
     have Guz71_1:=OwF.keptD Guz71_1 hgr95 Doz71_1_oz71_0
     have K:=KeepV.belowLo K hbl96
     have T:=T.trans (Below.weak LW hbl96)
     refine RL.y rfl (Y.nilCheck rfl)<|RL.y rfl (Y.fieldAddr (off:=3) rfl (by kernel_rfl)) ?_
     obtain ⟨A99,c100,rfl⟩:=OwF.form G94
     have qbA99:=OwF.bound G94
     refine RL.store (v:=.slice A99 ((z71.data ++ [y79.1]).length) c100) (cs':=#[.int .i64 z71.kind,.int .i64 z71.level,.int .i64 z71.value,.slice A99 ((z71.data ++ [y79.1]).length) c100,uz71_1]) rfl rfl rfl Bz71 (by kernel_rfl) (by rfl) (by rfl) (by rfl) (fun w101 B102 ho103=>?_)
     have szw101:=ho103.size
     have G4:=OwF.only G4 ho103 Zo5_obp0
     have Guz71_1:=OwF.only Guz71_1 ho103 Noz71_1_obp0
     have G94:=OwF.only G94 ho103 No98_obp0
     have K:=KeepV.only1 K ho103 rfl
     have T:=T.trans (ho103.below (by first|(simp; done)|(simp; omega)))
     refine RL.nil ?_
     refine blk_n (then_n ?_)
     refine wp_rs rfl<|RQ.y rfl (Y.move (v:=.int .i64 i70) s9_2)<|RQ.y rfl (Y.binI rfl rfl (binI_add (m:=i70) (by omega)))<|RQ.y rfl (Y.assign (v:=.int .i64 (i70+1)) rfl)<|RQ.nil ?_
     exact (then_n ⟨g,_,Nat.lt_succ_self _,rfl,⟨(i70+1),(⟨z71.kind,z71.level,z71.value,(z71.data ++ [y79.1]),z71.ports⟩:DAgent),(.slice A99 ((z71.data ++ [y79.1]).length) c100),(uz71_1),s0_2,s5_2,rfl,(by omega),B102,G94,Guz71_1,(Ap.dj (Dj.ap Do98_o5)),(ap_ne (ne_ap No98_obp0)),(Ap.dj (Ap.symm (Dj.ap Do98_oz71_1))),(Ap.dj (Dj.ap Doz71_1_o5)),(ap_ne (ne_ap Noz71_1_obp0)),G4,K,T,(by rw [← hrec2]; exact hm)⟩⟩)
    replace hm:=cT c11 hm
    refine cond_t rfl (vb rfl c11)<|wp_skip<|then_n<|cond_t rfl (vb rfl c11)<|wp_seq<|wp_rl rfl<|RL.y rfl (Y.move (v:=.pointer (some ⟨pc0,0,none⟩)) s0_j1x)<|RL.y rfl (Y.move (v:=v3) s5_j1x) ?_
    obtain ⟨A105,c106,rfl⟩:=OwF.form G4
    have qbA105:=OwF.bound G4
    obtain ⟨x107,hx109,hm⟩:=bnd hm
    obtain ⟨k108,hk110,hl111,hx109⟩:=getI_some hx109
    obtain ⟨b112,rfl⟩:=OwF.addr0 G4 (by omega)
    refine RL.y rfl (Y.indexAddr (m:=k108) (sz:=1) rfl rfl hk110 hl111 (by kernel_rfl))<|RL.y rfl (Y.load (v:=.string x107) rfl (by kernel_rfl) (eqC (OwF.cell fS G4 hx109 (j:=0) rfl))) ?_
    obtain ⟨y113,e114,hm⟩:=bnd hm
    refine RL.call rfl (am1 rfl) (by kernel_rfl) ((c_m_spec_OperatorOf x107 _ e114  _ ).mono ?_)
    rintro _ w115 ⟨rfl,hb116⟩
    refine ⟨_,rfl,?_⟩
    have szw115:=hb116.size
    have hv0:=blkT hv0 hb116
    have G4:=OwF.below G4 hb116
    have K:=KeepV.below K hb116
    have T:=Tt T hb116
    refine RL.y rfl (Y.nilCheck rfl)<|RL.y rfl (Y.fieldAddr (off:=2) rfl (by kernel_rfl)) ?_
    refine RL.store (v:=.int .i64 y113) (cs':=#[.int .i64 d0.kind,.int .i64 d0.level,.int .i64 y113,.slice none 0 0,.slice none 0 0]) rfl rfl rfl hv0 (by kernel_rfl) (by rfl) (by rfl) (by rfl) (fun w117 B118 ho119=>?_)
    have szw117:=ho119.size
    have G4:=OwF.only G4 ho119 Zo5_obp0
    have K:=KeepV.only1 K ho119 rfl
    have T:=T.trans (ho119.below (by first|(simp; done)|(simp; omega)))
    refine RL.nil<|then_n<|wp_rs rfl<|RQ.y rfl (Y.assign (v:=.int .i64 1) rfl)<|RQ.nil ?_
    refine blk_n (then_n ?_)
    refine wp_seq<|wp_seq<|wp_rs rfl<|RQ.y rfl (Y.move (v:=.int .i64 1) rfl)<|RQ.y rfl (Y.assign (v:=.int .i64 1) rfl)<|RQ.nil<|then_n<|wp_block ?_
    obtain ⟨K3,hK3,hm⟩ :∃K,K=m_spec_l11ReadContent_A3∧m_spec_l11ReadContent_L3 y1 K (y1.length+1) 1 (⟨d0.kind,d0.level,y113,[],[]⟩:DAgent)=some r:=⟨_,rfl,hm⟩
    refine wp_loopX (fun g f w'=>∃(i122:Int) (z123:DAgent) (uz123_0:Value) (uz123_1:Value),f 0=.pointer (some ⟨pc0,0,none⟩)∧f 5=.slice (some ⟨b112,0,none⟩) y1.length c106∧f 9=.int .i64 i122∧0≤i122∧Blk w' pc0 49 #[.int .i64 z123.kind,.int .i64 z123.level,.int .i64 z123.value,uz123_0,uz123_1]∧OwF 2 encI 1 w' ws.heap.size uz123_0 z123.data∧OwF 61 encPort 2 w' ws.heap.size uz123_1 z123.ports∧Dj uz123_0 (.slice (some ⟨b112,0,none⟩) y1.length c106)∧Value.ownBlock uz123_0 ≠ some pc0∧Dj uz123_1 uz123_0∧Dj uz123_1 (.slice (some ⟨b112,0,none⟩) y1.length c106)∧Value.ownBlock uz123_1 ≠ some pc0∧OwF 9 encS 1 w' ws.heap.size (.slice (some ⟨b112,0,none⟩) y1.length c106) y1∧KeepV (.slice (some ⟨pc0,0,none⟩) 1 1) (.slice (some ⟨pc0,0,none⟩) 1 1) ws w'∧Below w.heap.size w w'∧m_spec_l11ReadContent_L3 y1 K3 g i122 z123=some r) 1 (fun f w'=>∃(z120:DAgent) (uz120_0:Value) (uz120_1:Value),f 0=.pointer (some ⟨pc0,0,none⟩)∧Blk w' pc0 49 #[.int .i64 z120.kind,.int .i64 z120.level,.int .i64 z120.value,uz120_0,uz120_1]∧OwF 2 encI 1 w' ws.heap.size uz120_0 z120.data∧OwF 61 encPort 2 w' ws.heap.size uz120_1 z120.ports∧Value.ownBlock uz120_0 ≠ some pc0∧Dj uz120_1 uz120_0∧Value.ownBlock uz120_1 ≠ some pc0∧KeepV (.slice (some ⟨pc0,0,none⟩) 1 1) (.slice (some ⟨pc0,0,none⟩) 1 1) ws w'∧Below w.heap.size w w'∧m_spec_l11ReadContent_A3 z120=some r) (y1.length+1) ⟨1,(⟨d0.kind,d0.level,y113,[],[]⟩:DAgent),(.slice none 0 0),(.slice none 0 0),s0_j1x,s5_j1x,rfl,(by omega),B118,OwF.nil,OwF.nil,Dj.nil,nilNe (b:=pc0),Dj.nil,Dj.nil,nilNe (b:=pc0),G4,K,T,hm⟩ ?_ ?_
    ·rintro f w121 ⟨z120,uz120_0,uz120_1,s0_3x,Bz120,Guz120_0,Guz120_1,Noz120_0_obp0,Doz120_1_oz120_0,Noz120_1_obp0,K,T,hm⟩
     unfold m_spec_l11ReadContent_A3 at hm
     refine blk_hit (then_n ?_)
     refine wp_seq<|wp_rs rfl<|RQ.y rfl (Y.assign (v:=.bool true) rfl)<|RQ.nil<|then_n<|wp_ret ?_
     obtain rfl:=sj hm
     exact (ret1 rfl rfl rfl ⟨⟨_,_,rfl,Guz120_0,Guz120_1,(Ap.dj (Ap.symm (Dj.ap Doz120_1_oz120_0))),Bz120⟩,K,T⟩)
    rintro g f w124 ⟨i122,z123,uz123_0,uz123_1,s0_3,s5_3,s9_3,nn9_3,Bz123,Guz123_0,Guz123_1,Doz123_0_o5,Noz123_0_obp0,Doz123_1_oz123_0,Doz123_1_o5,Noz123_1_obp0,G4,K,T,hm⟩
    rcases g with _|g
    ·simp only [m_spec_l11ReadContent_L3] at hm; cases hm
    obtain ⟨rec3,hrec3,hm⟩ :∃z,z=m_spec_l11ReadContent_L3 y1 K3 g∧m_spec_l11ReadContent_B3 y1 z K3 i122 z123=some r:=⟨_,rfl,hm⟩
    unfold m_spec_l11ReadContent_B3 at hm
    refine wp_seq<|wp_seq<|wp_rs rfl<|RQ.y rfl (Y.move (v:=.int .i64 i122) s9_3)<|RQ.y rfl (Y.move (v:=.slice (some ⟨b112,0,none⟩) y1.length c106) s5_3)<|RQ.y rfl (Y.len (by kernel_rfl) rfl)<|RQ.y rfl (Y.binI (v:=.bool (decide (i122 < (y1.length:Int)))) rfl rfl rfl)<|RQ.nil<|then_n ?_
    rcases bcases (decide (i122 < (y1.length:Int))) with c125|c125
    ·replace hm:=cF c125 hm
     have pc125:=of_decide_eq_false c125
     refine cond_f rfl (vb rfl c125)<|wp_exit ?_
     exact (then_x (then_x (hit_x ⟨_,rfl,⟨z123,(uz123_0),(uz123_1),s0_3,Bz123,Guz123_0,Guz123_1,(ap_ne (ne_ap Noz123_0_obp0)),(Ap.dj (Dj.ap Doz123_1_oz123_0)),(ap_ne (ne_ap Noz123_1_obp0)),K,T,(by rw [hK3] at hm; exact hm)⟩⟩)))
    replace hm:=cT c125 hm
    have pc125:=of_decide_eq_true c125
    refine cond_t rfl (vb rfl c125)<|wp_skip<|then_n<|wp_seq<|wp_block<|wp_seq<|wp_rb rfl<|RQ.y rfl (Y.move (v:=.slice (some ⟨b112,0,none⟩) y1.length c106) s5_3)<|RQ.y rfl (Y.move (v:=.int .i64 i122) s9_3) ?_
    obtain ⟨x126,hx128,hm⟩:=bnd hm
    obtain ⟨k127,hk129,hl130,hx128⟩:=getI_some hx128
    refine RQ.y rfl (Y.indexAddr (m:=k127) (sz:=1) rfl rfl hk129 hl130 (by kernel_rfl))<|RQ.y rfl (Y.load (v:=.string x126) rfl (by kernel_rfl) (beC (OwF.cell fS G4 hx128 (j:=0) rfl))) ?_
    obtain ⟨y131,e132,hm⟩:=bnd hm
    refine RQ.call rfl (am1 rfl) (by kernel_rfl) (v:=.tuple #[.int .i64 y131.1,.bool y131.2]) (bel (K:=fun _=>True) fun w' hb'=>(c_m_spec_ReadDecimal x126 _ e132  w' ))<|RQ.y rfl (Y.move (v:=.tuple #[.int .i64 y131.1,.bool y131.2]) rfl)<|RQ.y rfl (Y.extract (i:=0) rfl rfl)<|RQ.y rfl (Y.extract (i:=1) rfl rfl)<|RQ.y rfl (Y.assign (v:=.int .i64 y131.1) rfl)<|RQ.y rfl (Y.assign (v:=.bool y131.2) rfl)<|RQ.nil ?_
    intro w133 hb134
    have szw133:=hb134.size
    have Bz123:=blkT Bz123 hb134
    have G4:=OwF.below G4 hb134
    have Guz123_0:=OwF.below Guz123_0 hb134
    have Guz123_1:=OwF.below Guz123_1 hb134
    have K:=KeepV.below K hb134
    have T:=Tt T hb134
    refine then_n<|wp_seq<|wp_seq<|wp_rs rfl<|RQ.y rfl (Y.move (v:=.bool y131.2) rfl)<|RQ.y rfl (Y.not (b':=(!y131.2)) rfl rfl)<|RQ.nil<|then_n ?_
    rcases bcases y131.2 with c135|c135
    ·replace hm:=cF c135 hm
     refine cond_t rfl (vbn rfl c135 rfl)<|wp_seq<|wp_rs rfl<|RQ.y rfl (Y.assign (v:=.bool false) rfl)<|RQ.nil<|then_n<|wp_ret ?_
     obtain rfl:=sj hm
     exact (then_r (blk_r (then_r (then_r (hit_r (blk_r (then_r (ret1 rfl rfl rfl ⟨⟨_,_,rfl,Guz123_0,Guz123_1,(Ap.dj (Ap.symm (Dj.ap Doz123_1_oz123_0))),Bz123⟩,K,T⟩))))))))
    replace hm:=cT c135 hm
    refine cond_f rfl (vbn rfl c135 rfl)<|wp_skip<|then_n<|wp_rl rfl<|RL.y rfl (Y.move (v:=.pointer (some ⟨pc0,0,none⟩)) s0_3)<|RL.y rfl (Y.move (v:=.pointer (some ⟨pc0,0,none⟩)) s0_3)<|RL.y rfl (Y.nilCheck rfl)<|RL.y rfl (Y.fieldAddr (off:=3) rfl (by kernel_rfl))<|RL.y rfl (Y.load (v:=uz123_0) rfl (by kernel_rfl) (eqC (blkCell Bz123 (i:=3) rfl)))<|RL.y rfl (Y.move (v:=.int .i64 y131.1) rfl) ?_
    refine RL.bslice (e:=2) (cells:=#[.int .i64 y131.1]) rfl (pm1 rfl) (by kernel_rfl) (fun w136 B137 hb138 szw136=>?_)
    have ZB137:ws.heap.size≤w133.heap.size:=K.size
    have No139_obp0:=litNe (n:=1) (c:=1) Bz123.lt
    have Do139_o5:=Dj.new (v:=.slice (some ⟨w133.heap.size,0,none⟩) 1 1) litGe (OwF.hi G4)
    have Do139_oz123_0:=Dj.new (v:=.slice (some ⟨w133.heap.size,0,none⟩) 1 1) litGe (OwF.hi Guz123_0)
    have Do139_oz123_1:=Dj.new (v:=.slice (some ⟨w133.heap.size,0,none⟩) 1 1) litGe (OwF.hi Guz123_1)
    have Bz123:=blkT Bz123 hb138
    have G4:=OwF.below G4 hb138
    have Guz123_0:=OwF.below Guz123_0 hb138
    have Guz123_1:=OwF.below Guz123_1 hb138
    have K:=KeepV.below K hb138
    have T:=Tt T hb138
    have G140:=OwF.lit (enc:=encI) (sz:=1) (xs:=[y131.1]) B137 ZB137 rfl rfl rfl rfl
    obtain ⟨_,m142,hm⟩:=bnd hm
    have hk143:=mustP_some m142
    refine RL.append fI app_int64 rfl rfl rfl Guz123_0 (OwF.arg fI G140) K.size hk143 (fun v144 w145 G146 hgr147 hbl148 hnb149=>?_)
    have szw145:=hbl148.size
    have No150_obp0:=ne_app hnb149 Noz123_0_obp0 Bz123.lt
    have Do150_o5:=Dj.app Doz123_0_o5 hnb149 (OwF.hi G4)
    have Do150_oz123_1:=Dj.app (Dj.symm Doz123_1_oz123_0) hnb149 (OwF.hi Guz123_1)
    have Bz123:=Blk.kept Bz123 hgr147 Noz123_0_obp0
    have G4:=OwF.keptD G4 hgr147 (Dj.symm Doz123_0_o5)
    have Guz123_1:=OwF.keptD Guz123_1 hgr147 Doz123_1_oz123_0
    have K:=KeepV.belowLo K hbl148
    have T:=T.trans (Below.weak LW hbl148)
    refine RL.y rfl (Y.nilCheck rfl)<|RL.y rfl (Y.fieldAddr (off:=3) rfl (by kernel_rfl)) ?_
    obtain ⟨A151,c152,rfl⟩:=OwF.form G146
    have qbA151:=OwF.bound G146
    refine RL.store (v:=.slice A151 ((z123.data ++ [y131.1]).length) c152) (cs':=#[.int .i64 z123.kind,.int .i64 z123.level,.int .i64 z123.value,.slice A151 ((z123.data ++ [y131.1]).length) c152,uz123_1]) rfl rfl rfl Bz123 (by kernel_rfl) (by rfl) (by rfl) (by rfl) (fun w153 B154 ho155=>?_)
    have szw153:=ho155.size
    have G4:=OwF.only G4 ho155 Zo5_obp0
    have Guz123_1:=OwF.only Guz123_1 ho155 Noz123_1_obp0
    have G146:=OwF.only G146 ho155 No150_obp0
    have K:=KeepV.only1 K ho155 rfl
    have T:=T.trans (ho155.below (by first|(simp; done)|(simp; omega)))
    refine RL.nil ?_
    refine blk_n (then_n ?_)
    refine wp_rs rfl<|RQ.y rfl (Y.move (v:=.int .i64 i122) s9_3)<|RQ.y rfl (Y.binI rfl rfl (binI_add (m:=i122) (by omega)))<|RQ.y rfl (Y.assign (v:=.int .i64 (i122+1)) rfl)<|RQ.nil ?_
    exact (then_n ⟨g,_,Nat.lt_succ_self _,rfl,⟨(i122+1),(⟨z123.kind,z123.level,z123.value,(z123.data ++ [y131.1]),z123.ports⟩:DAgent),(.slice A151 ((z123.data ++ [y131.1]).length) c152),(uz123_1),s0_3,s5_3,rfl,(by omega),B154,G146,Guz123_1,(Ap.dj (Dj.ap Do150_o5)),(ap_ne (ne_ap No150_obp0)),(Ap.dj (Ap.symm (Dj.ap Do150_oz123_1))),(Ap.dj (Dj.ap Doz123_1_o5)),(ap_ne (ne_ap Noz123_1_obp0)),G4,K,T,(by rw [← hrec3]; exact hm)⟩⟩)
   replace hm:=cT c10 hm
   refine cond_t rfl (vb s18_j1x c10)<|wp_seq<|wp_rb rfl<|RQ.y rfl (Y.move (v:=.string d1) s1_j1x) ?_
   obtain ⟨y157,e158,hm⟩:=bnd hm
   refine RQ.call rfl (am1 rfl) (by kernel_rfl) (v:=.tuple #[.int .i64 y157.1,.bool y157.2]) (bel (K:=fun _=>True) fun w' hb'=>(c_m_spec_ReadDecimal d1 _ e158  w' ))<|RQ.y rfl (Y.move (v:=.tuple #[.int .i64 y157.1,.bool y157.2]) rfl)<|RQ.y rfl (Y.extract (i:=0) rfl rfl)<|RQ.y rfl (Y.extract (i:=1) rfl rfl)<|RQ.y rfl (Y.assign (v:=.int .i64 y157.1) rfl)<|RQ.y rfl (Y.assign (v:=.bool y157.2) rfl)<|RQ.nil ?_
   intro w159 hb160
   have szw159:=hb160.size
   have hv0:=blkT hv0 hb160
   have K:=KeepV.below K hb160
   have T:=Tt T hb160
   refine then_n<|wp_seq<|wp_rl rfl<|RL.y rfl (Y.move (v:=.pointer (some ⟨pc0,0,none⟩)) s0_j1x)<|RL.y rfl (Y.move (v:=.int .i64 y157.1) rfl)<|RL.y rfl (Y.nilCheck rfl)<|RL.y rfl (Y.fieldAddr (off:=2) rfl (by kernel_rfl)) ?_
   refine RL.store (v:=.int .i64 y157.1) (cs':=#[.int .i64 d0.kind,.int .i64 d0.level,.int .i64 y157.1,.slice none 0 0,.slice none 0 0]) rfl rfl rfl hv0 (by kernel_rfl) (by rfl) (by rfl) (by rfl) (fun w161 B162 ho163=>?_)
   have szw161:=ho163.size
   have K:=KeepV.only1 K ho163 rfl
   have T:=T.trans (ho163.below (by first|(simp; done)|(simp; omega)))
   refine RL.nil<|then_n<|wp_seq<|wp_rs rfl<|RQ.y rfl (Y.move (v:=.bool y157.2) rfl)<|RQ.y rfl (Y.assign (v:=.bool y157.2) rfl)<|RQ.nil<|then_n<|wp_ret ?_
   obtain rfl:=sj hm
   exact (blk_r (then_r (ret1 rfl rfl rfl ⟨⟨_,_,rfl,OwF.nil,OwF.nil,Dj.nil,B162⟩,K,T⟩)))
  intro hJj1
  refine wp_seq<|wp_seq<|wp_rs rfl<|RQ.y rfl (Y.binI (v:=.bool (d0.kind==6)) rfl rfl rfl)<|RQ.y rfl (Y.assign (v:=.bool (d0.kind==6)) rfl)<|RQ.nil<|then_n ?_
  rcases bcases (d0.kind==6) with c164|c164
  ·replace hm:=cF c164 hm
   refine cond_f rfl (vb rfl c164)<|wp_seq<|wp_rs rfl<|RQ.y rfl (Y.binI (v:=.bool (d0.kind==9)) rfl rfl rfl)<|RQ.y rfl (Y.assign (v:=.bool (d0.kind==9)) rfl)<|RQ.nil<|then_n ?_
   rcases bcases (d0.kind==9) with c165|c165
   ·replace hm:=cF c165 hm
    refine cond_f rfl (vb rfl c165)<|wp_rs rfl<|RQ.y rfl (Y.binI (v:=.bool (d0.kind==12)) rfl rfl rfl)<|RQ.y rfl (Y.assign (v:=.bool (d0.kind==12)) rfl)<|RQ.nil<|then_n ?_
    exact hJj1 _ _ ⟨(d0.kind==12),s0,s1,rfl,rfl,rfl,rfl,hv0,G4,K,T,hm⟩
   replace hm:=cT c165 hm
   refine cond_t rfl (vb rfl c165)<|wp_skip<|then_n ?_
   exact hJj1 _ _ ⟨(d0.kind==9),s0,s1,rfl,rfl,rfl,rfl,hv0,G4,K,T,hm⟩
  replace hm:=cT c164 hm
  refine cond_t rfl (vb rfl c164)<|wp_skip<|then_n ?_
  exact hJj1 _ _ ⟨(d0.kind==6),s0,s1,rfl,rfl,rfl,rfl,hv0,G4,K,T,hm⟩
def m_spec_l11ReadAgent_A2 (z66:DAgent) (z67:DAgent):Option (DAgent × Bool):=
  some (z67,true)
def m_spec_l11ReadAgent_B2 (y5:List ByteArray) (rec2:Int→DAgent→DAgent→Option (DAgent × Bool)) (K2:DAgent→DAgent→Option (DAgent × Bool)) (i76:Int) (z77:DAgent) (z78:DAgent):Option (DAgent × Bool):=
  (bif (decide (i76 < (y5.length:Int))) then ((getI y5 i76).bind fun x81=>((m_spec_l11ReadPort x81).bind fun y86=>(bif y86.2 then ((mustP (z78.ports.length+([y86.1]).length≤4294967296)).bind fun _=>(rec2 (i76+1) z77 (⟨z78.kind,z78.level,z78.value,z78.data,(z78.ports ++ [y86.1])⟩:DAgent))) else some (z78,false)))) else (K2 z77 z78))
def m_spec_l11ReadAgent_L2 (y5:List ByteArray) (K2:DAgent→DAgent→Option (DAgent × Bool)):Nat→Int→DAgent→DAgent→Option (DAgent × Bool)
  |0,_,_,_=>none
  |g+1,i76,z77,z78=>m_spec_l11ReadAgent_B2 y5 (m_spec_l11ReadAgent_L2 y5 K2 g) K2 i76 z77 z78
def m_spec_l11ReadAgent_A3 (z151:DAgent) (z152:DAgent):Option (DAgent × Bool):=
  some (z152,true)
def m_spec_l11ReadAgent_B3 (y5:List ByteArray) (rec3:Int→DAgent→DAgent→Option (DAgent × Bool)) (K3:DAgent→DAgent→Option (DAgent × Bool)) (i161:Int) (z162:DAgent) (z163:DAgent):Option (DAgent × Bool):=
  (bif (decide (i161 < (y5.length:Int))) then ((getI y5 i161).bind fun x166=>((m_spec_l11ReadPort x166).bind fun y171=>(bif y171.2 then ((mustP (z163.ports.length+([y171.1]).length≤4294967296)).bind fun _=>(rec3 (i161+1) z162 (⟨z163.kind,z163.level,z163.value,z163.data,(z163.ports ++ [y171.1])⟩:DAgent))) else some (z163,false)))) else (K3 z162 z163))
def m_spec_l11ReadAgent_L3 (y5:List ByteArray) (K3:DAgent→DAgent→Option (DAgent × Bool)):Nat→Int→DAgent→DAgent→Option (DAgent × Bool)
  |0,_,_,_=>none
  |g+1,i161,z162,z163=>m_spec_l11ReadAgent_B3 y5 (m_spec_l11ReadAgent_L3 y5 K3 g) K3 i161 z162 z163
def m_spec_l11ReadAgent_A4 (z228:DAgent) (z229:DAgent):Option (DAgent × Bool):=
  some (z229,true)
def m_spec_l11ReadAgent_B4 (y5:List ByteArray) (rec4:Int→DAgent→DAgent→Option (DAgent × Bool)) (K4:DAgent→DAgent→Option (DAgent × Bool)) (i238:Int) (z239:DAgent) (z240:DAgent):Option (DAgent × Bool):=
  (bif (decide (i238 < (y5.length:Int))) then ((getI y5 i238).bind fun x243=>((m_spec_l11ReadPort x243).bind fun y248=>(bif y248.2 then ((mustP (z240.ports.length+([y248.1]).length≤4294967296)).bind fun _=>(rec4 (i238+1) z239 (⟨z240.kind,z240.level,z240.value,z240.data,(z240.ports ++ [y248.1])⟩:DAgent))) else some (z240,false)))) else (K4 z239 z240))
def m_spec_l11ReadAgent_L4 (y5:List ByteArray) (K4:DAgent→DAgent→Option (DAgent × Bool)):Nat→Int→DAgent→DAgent→Option (DAgent × Bool)
  |0,_,_,_=>none
  |g+1,i238,z239,z240=>m_spec_l11ReadAgent_B4 y5 (m_spec_l11ReadAgent_L4 y5 K4 g) K4 i238 z239 z240
def m_spec_l11ReadAgent_A5 (z313:DAgent) (z314:DAgent):Option (DAgent × Bool):=
  some (z314,true)
def m_spec_l11ReadAgent_B5 (y5:List ByteArray) (rec5:Int→DAgent→DAgent→Option (DAgent × Bool)) (K5:DAgent→DAgent→Option (DAgent × Bool)) (i323:Int) (z324:DAgent) (z325:DAgent):Option (DAgent × Bool):=
  (bif (decide (i323 < (y5.length:Int))) then ((getI y5 i323).bind fun x328=>((m_spec_l11ReadPort x328).bind fun y333=>(bif y333.2 then ((mustP (z325.ports.length+([y333.1]).length≤4294967296)).bind fun _=>(rec5 (i323+1) z324 (⟨z325.kind,z325.level,z325.value,z325.data,(z325.ports ++ [y333.1])⟩:DAgent))) else some (z325,false)))) else (K5 z324 z325))
def m_spec_l11ReadAgent_L5 (y5:List ByteArray) (K5:DAgent→DAgent→Option (DAgent × Bool)):Nat→Int→DAgent→DAgent→Option (DAgent × Bool)
  |0,_,_,_=>none
  |g+1,i323,z324,z325=>m_spec_l11ReadAgent_B5 y5 (m_spec_l11ReadAgent_L5 y5 K5 g) K5 i323 z324 z325
def m_spec_l11ReadAgent_A1 (d0:ByteArray) (y5:List ByteArray) (xs33:List ByteArray):Option (DAgent × Bool):=
  ((getI xs33 0).bind fun x37=>((m_spec_l11Split x37 47).bind fun y43=>((getI y43 0).bind fun x52=>(bif (decide ((y43.length:Int) > 2)) then some ((⟨(kindNamed x52),0,0,[],[]⟩:DAgent),false) else (bif ((y43.length:Int)==2) then ((getI y43 1).bind fun x211=>((m_spec_ReadDecimal x211).bind fun y216=>(bif y216.2 then (bif ((xs33.length:Int)==2) then ((getI xs33 1).bind fun x288=>((m_spec_l11ReadContent (⟨(kindNamed x52),y216.1,0,[],[]⟩:DAgent) x288).bind fun y293=>(bif y293.1 then (m_spec_l11ReadAgent_L5 y5 m_spec_l11ReadAgent_A5 (y5.length+1) 1 (⟨0,0,0,[],[]⟩:DAgent) (⟨y293.2.kind,y293.2.level,y293.2.value,y293.2.data,y293.2.ports⟩:DAgent)) else some ((⟨y293.2.kind,y293.2.level,y293.2.value,y293.2.data,y293.2.ports⟩:DAgent),false)))) else (m_spec_l11ReadAgent_L4 y5 m_spec_l11ReadAgent_A4 (y5.length+1) 1 (⟨0,0,0,[],[]⟩:DAgent) (⟨(kindNamed x52),y216.1,0,[],[]⟩:DAgent))) else some ((⟨(kindNamed x52),0,0,[],[]⟩:DAgent),false)))) else (bif ((xs33.length:Int)==2) then ((getI xs33 1).bind fun x126=>((m_spec_l11ReadContent (⟨(kindNamed x52),0,0,[],[]⟩:DAgent) x126).bind fun y131=>(bif y131.1 then (m_spec_l11ReadAgent_L3 y5 m_spec_l11ReadAgent_A3 (d0.size+3) 1 (⟨0,0,0,[],[]⟩:DAgent) (⟨y131.2.kind,y131.2.level,y131.2.value,y131.2.data,y131.2.ports⟩:DAgent)) else some ((⟨y131.2.kind,y131.2.level,y131.2.value,y131.2.data,y131.2.ports⟩:DAgent),false)))) else (m_spec_l11ReadAgent_L2 y5 m_spec_l11ReadAgent_A2 (d0.size+3) 1 (⟨0,0,0,[],[]⟩:DAgent) (⟨(kindNamed x52),0,0,[],[]⟩:DAgent))))))))
def m_spec_l11ReadAgent_B1 (y5:List ByteArray) (rec1:List ByteArray→Int→Option (DAgent × Bool)) (K1:List ByteArray→Option (DAgent × Bool)) (xs376:List ByteArray) (i377:Int):Option (DAgent × Bool):=
  ((getI y5 0).bind fun x379=>(bif (decide (i377 < (x379.size:Int))) then (bif ((xs376.length:Int)==1) then ((getI y5 0).bind fun x388=>((getB x388 i377).bind fun x393=>(bif (x393==61) then ((getI y5 0).bind fun x399=>((subS x399 0 i377).bind fun s404=>((getI y5 0).bind fun x406=>((ck (i377+1)).bind fun s411=>((subS x406 s411 (x406.size:Int)).bind fun s412=>((ck (i377+1)).bind fun s420=>(rec1 ([s404,s412]) s420))))))) else ((ck (i377+1)).bind fun s396=>(rec1 xs376 s396))))) else (K1 xs376)) else (K1 xs376)))
def m_spec_l11ReadAgent_L1 (y5:List ByteArray) (K1:List ByteArray→Option (DAgent × Bool)):Nat→List ByteArray→Int→Option (DAgent × Bool)
  |0,_,_=>none
  |g+1,xs376,i377=>m_spec_l11ReadAgent_B1 y5 (m_spec_l11ReadAgent_L1 y5 K1 g) K1 xs376 i377
def m_spec_l11ReadAgent (d0:ByteArray):Option (DAgent × Bool):=
  ((m_spec_l11Split d0 32).bind fun y5=>((getI y5 0).bind fun x21=>(m_spec_l11ReadAgent_L1 y5 (m_spec_l11ReadAgent_A1 d0 y5) (d0.size+2) ([x21]) 0)))
set_option maxHeartbeats 2000000 in
theorem c_m_spec_l11ReadAgent (d0:ByteArray) (r:DAgent × Bool) (hm:m_spec_l11ReadAgent d0=some r)  (w:World)  :
    Calls Tryz.prog 22 #[.string d0] w fun e w'=>(∃(v0:Value) (v1:Value),e=.returned (.tuple #[.agg #[.int .i64 r.1.kind,.int .i64 r.1.level,.int .i64 r.1.value,v0,v1],.bool r.2])∧OwF 2 encI 1 w' w.heap.size v0 r.1.data∧OwF 61 encPort 2 w' w.heap.size v1 r.1.ports∧Dj v0 v1)∧Below w.heap.size w w':=by
  have T:=Below.refl w.heap.size w
  unfold m_spec_l11ReadAgent at hm
  refine enter 115 Tryz.func22 rfl rfl rfl ?_
  intro f hf
  have s0:f 0=.string d0:=hf 0 _ rfl
  refine wp_seq<|wp_rl rfl ?_
  refine RL.alloc (z:=.agg #[.int .i64 0,.int .i64 0,.int .i64 0,.slice none 0 0,.slice none 0 0]) rfl (by kernel_rfl) (fun w1 B2 hb3 szw1=>?_)
  replace B2:Blk w1 w.heap.size 49 #[.int .i64 0,.int .i64 0,.int .i64 0,.slice none 0 0,.slice none 0 0]:=B2
  have GB2:w.heap.size≤w.heap.size:=T.size
  have T:=Tt T hb3
  refine RL.y rfl (Y.assign (v:=.bool false) rfl)<|RL.nil<|then_n<|wp_seq<|wp_rl rfl<|RL.y rfl (Y.move (v:=.string d0) s0) ?_
  obtain ⟨y5,e6,hm⟩:=bnd hm
  refine RL.call rfl (am2 rfl rfl) (by kernel_rfl) ((c_m_spec_l11Split d0 32 _ e6  _ ).mono ?_)
  rintro _ w10 ⟨⟨v7,rfl,G8⟩,hb11⟩
  refine ⟨_,rfl,?_⟩
  have szw10:=hb11.size
  have T0w10:=T.size
  have Zo9_ob4:=ap_ne (Ap.new (OwF.flo G8) (one_hi B2.lt))
  have B2:=blkT B2 hb11
  have T:=Tt T hb11
  replace G8:=OwF.mono G8 T0w10
  refine RL.y rfl (Y.assign (v:=v7) rfl)<|RL.nil<|then_n<|wp_seq<|wp_rl rfl<|RL.y rfl (Y.build0 (cells:=#[.int .i64 0,.int .i64 0,.int .i64 0,.slice none 0 0,.slice none 0 0])  (by kernel_rfl) (by kernel_rfl)) ?_
  refine RL.alloc (z:=.agg #[.int .i64 0,.int .i64 0,.int .i64 0,.slice none 0 0,.slice none 0 0]) rfl (by kernel_rfl) (fun w12 B13 hb14 szw12=>?_)
  replace B13:Blk w12 w10.heap.size 49 #[.int .i64 0,.int .i64 0,.int .i64 0,.slice none 0 0,.slice none 0 0]:=B13
  have GB13:w.heap.size≤w10.heap.size:=T.size
  have Eob15_ob4:=Nat.ne_of_lt B2.lt
  have No9_ob15:=OwF.far G8 (Nat.le_refl _)
  have B2:=blkT B2 hb14
  have G8:=OwF.below G8 hb14
  have T:=Tt T hb14
  refine RL.store (v:=.agg #[.int .i64 0,.int .i64 0,.int .i64 0,.slice none 0 0,.slice none 0 0]) (cs':=#[.int .i64 0,.int .i64 0,.int .i64 0,.slice none 0 0,.slice none 0 0]) rfl rfl rfl B13 (by kernel_rfl) (by rfl) (by rfl) (by rfl) (fun w16 B17 ho18=>?_)
  have szw16:=ho18.size
  have B2:=B2.only_ ho18 (by intro hin; simp at hin; exact Eob15_ob4 hin)
  have G8:=OwF.only G8 ho18 No9_ob15
  have T:=T.trans (ho18.below (by first|(simp; done)|(simp; omega)))
  refine RL.nil<|then_n<|wp_seq<|wp_rl rfl<|RL.y rfl (Y.move (v:=v7) rfl) ?_
  obtain ⟨A19,c20,rfl⟩:=OwF.form G8
  have qbA19:=OwF.bound G8
  obtain ⟨x21,hx23,hm⟩:=bnd hm
  obtain ⟨k22,hk24,hl25,hx23⟩:=getI_some hx23
  obtain ⟨b26,rfl⟩:=OwF.addr0 G8 (by omega)
  refine RL.y rfl (Y.indexAddr (m:=k22) (sz:=1) rfl rfl hk24 hl25 (by kernel_rfl))<|RL.y rfl (Y.load (v:=.string x21) rfl (by kernel_rfl) (eqC (OwF.cell fS G8 hx23 (j:=0) rfl))) ?_
  refine RL.bslice (e:=9) (cells:=#[.string x21]) rfl (pm1 rfl) (by kernel_rfl) (fun w27 B28 hb29 szw27=>?_)
  have ZB28:w.heap.size≤w16.heap.size:=T.size
  have No30_ob4:=litNe (n:=1) (c:=1) B2.lt
  have No30_ob15:=litNe (n:=1) (c:=1) B17.lt
  have Do30_o9:=Dj.new (v:=.slice (some ⟨w16.heap.size,0,none⟩) 1 1) litGe (OwF.hi G8)
  have B2:=blkT B2 hb29
  have B17:=blkT B17 hb29
  have G8:=OwF.below G8 hb29
  have T:=Tt T hb29
  have G31:=OwF.lit (enc:=encS) (sz:=1) (xs:=[x21]) B28 ZB28 rfl rfl rfl rfl
  refine RL.y rfl (Y.assign (v:=.slice (some ⟨w16.heap.size,0,none⟩) 1 1) rfl)<|RL.nil<|then_n<|wp_seq<|wp_seq<|wp_rs rfl<|RQ.y rfl (Y.assign (v:=.int .i64 0) rfl)<|RQ.nil<|then_n<|wp_block ?_
  obtain ⟨K1,hK1,hm⟩ :∃K,K=(m_spec_l11ReadAgent_A1 d0 y5)∧m_spec_l11ReadAgent_L1 y5 K (d0.size+2) ([x21]) 0=some r:=⟨_,rfl,hm⟩
  refine wp_loopX (fun g f w'=>∃(xs376:List ByteArray) (i377:Int) (uxs376:Value),f 2=.pointer (some ⟨w.heap.size,0,none⟩)∧f 4=.slice (some ⟨b26,0,none⟩) y5.length c20∧f 5=.pointer (some ⟨w10.heap.size,0,none⟩)∧f 6=uxs376∧OwF 9 encS 1 w' w.heap.size uxs376 xs376∧f 7=.int .i64 i377∧0≤i377∧Dj uxs376 (.slice (some ⟨b26,0,none⟩) y5.length c20)∧Value.ownBlock uxs376 ≠ some w.heap.size∧Value.ownBlock uxs376 ≠ some w10.heap.size∧Blk w' w.heap.size 49 #[.int .i64 0,.int .i64 0,.int .i64 0,.slice none 0 0,.slice none 0 0]∧Blk w' w10.heap.size 49 #[.int .i64 0,.int .i64 0,.int .i64 0,.slice none 0 0,.slice none 0 0]∧OwF 9 encS 1 w' w.heap.size (.slice (some ⟨b26,0,none⟩) y5.length c20) y5∧Below w.heap.size w w'∧m_spec_l11ReadAgent_L1 y5 K1 g xs376 i377=some r) 0 (fun f w'=>∃(xs33:List ByteArray) (uxs33:Value),f 2=.pointer (some ⟨w.heap.size,0,none⟩)∧f 4=.slice (some ⟨b26,0,none⟩) y5.length c20∧f 5=.pointer (some ⟨w10.heap.size,0,none⟩)∧f 6=uxs33∧OwF 9 encS 1 w' w.heap.size uxs33 xs33∧Dj uxs33 (.slice (some ⟨b26,0,none⟩) y5.length c20)∧Value.ownBlock uxs33 ≠ some w.heap.size∧Value.ownBlock uxs33 ≠ some w10.heap.size∧Blk w' w.heap.size 49 #[.int .i64 0,.int .i64 0,.int .i64 0,.slice none 0 0,.slice none 0 0]∧Blk w' w10.heap.size 49 #[.int .i64 0,.int .i64 0,.int .i64 0,.slice none 0 0,.slice none 0 0]∧OwF 9 encS 1 w' w.heap.size (.slice (some ⟨b26,0,none⟩) y5.length c20) y5∧Below w.heap.size w w'∧m_spec_l11ReadAgent_A1 d0 y5 xs33=some r) (d0.size+2) ⟨([x21]),0,(.slice (some ⟨w16.heap.size,0,none⟩) 1 1),rfl,rfl,rfl,rfl,G31,rfl,(by omega),(Ap.dj (Dj.ap Do30_o9)),(ap_ne (ne_ap No30_ob4)),(ap_ne (ne_ap No30_ob15)),B2,B17,G8,T,hm⟩ ?_ ?_
  ·rintro f w34 ⟨xs33,uxs33,s2_1x,s4_1x,s5_1x,s6_1x,Guxs33,Doxs33_o9,Noxs33_ob4,Noxs33_ob15,B2,B17,G8,T,hm⟩
   unfold m_spec_l11ReadAgent_A1 at hm
   refine blk_hit (then_n ?_)
   refine wp_seq<|wp_rl rfl<|RL.y rfl (Y.move (v:=uxs33) s6_1x) ?_
   obtain ⟨A35,c36,rfl⟩:=OwF.form Guxs33
   have qbA35:=OwF.bound Guxs33
   obtain ⟨x37,hx39,hm⟩:=bnd hm
   obtain ⟨k38,hk40,hl41,hx39⟩:=getI_some hx39
   obtain ⟨b42,rfl⟩:=OwF.addr0 Guxs33 (by omega)
   refine RL.y rfl (Y.indexAddr (m:=k38) (sz:=1) rfl rfl hk40 hl41 (by kernel_rfl))<|RL.y rfl (Y.load (v:=.string x37) rfl (by kernel_rfl) (eqC (OwF.cell fS Guxs33 hx39 (j:=0) rfl))) ?_
   obtain ⟨y43,e44,hm⟩:=bnd hm
   refine RL.call rfl (am2 rfl rfl) (by kernel_rfl) ((c_m_spec_l11Split x37 47 _ e44  _ ).mono ?_)
   rintro _ w48 ⟨⟨v45,rfl,G46⟩,hb49⟩
   refine ⟨_,rfl,?_⟩
   have szw48:=hb49.size
   have T0w48:=T.size
   have Zo47_ob4:=ap_ne (Ap.new (OwF.flo G46) (one_hi B2.lt))
   have Zo47_ob15:=ap_ne (Ap.new (OwF.flo G46) (one_hi B17.lt))
   have Zo47_o9:=Ap.dj (Ap.new (OwF.flo G46) (OwF.fhi G8))
   have Zo47_oxs33:=Ap.dj (Ap.new (OwF.flo G46) (OwF.fhi Guxs33))
   have B2:=blkT B2 hb49
   have B17:=blkT B17 hb49
   have G8:=OwF.below G8 hb49
   have Guxs33:=OwF.below Guxs33 hb49
   have T:=Tt T hb49
   replace G46:=OwF.mono G46 T0w48
   refine RL.y rfl (Y.assign (v:=v45) rfl)<|RL.nil<|then_n<|wp_seq<|wp_rl rfl<|RL.y rfl (Y.move (v:=v45) rfl) ?_
   obtain ⟨A50,c51,rfl⟩:=OwF.form G46
   have qbA50:=OwF.bound G46
   obtain ⟨x52,hx54,hm⟩:=bnd hm
   obtain ⟨k53,hk55,hl56,hx54⟩:=getI_some hx54
   obtain ⟨b57,rfl⟩:=OwF.addr0 G46 (by omega)
   refine RL.y rfl (Y.indexAddr (m:=k53) (sz:=1) rfl rfl hk55 hl56 (by kernel_rfl))<|RL.y rfl (Y.load (v:=.string x52) rfl (by kernel_rfl) (eqC (OwF.cell fS G46 hx54 (j:=0) rfl))) ?_
   refine RL.call rfl (am1 rfl) (by kernel_rfl) ((spec_KindNamed x52 _).mono ?_)
   rintro _ w58 ⟨rfl,hb59⟩
   refine ⟨_,rfl,?_⟩
   have szw58:=hb59.size
   have B2:=blkT B2 hb59
   have B17:=blkT B17 hb59
   have G8:=OwF.below G8 hb59
   have Guxs33:=OwF.below Guxs33 hb59
   have G46:=OwF.below G46 hb59
   have T:=Tt T hb59
   refine RL.y rfl (Y.fieldAddr (off:=0) s5_1x (by kernel_rfl)) ?_
   refine RL.store (v:=.int .i64 (kindNamed x52)) (cs':=#[.int .i64 (kindNamed x52),.int .i64 0,.int .i64 0,.slice none 0 0,.slice none 0 0]) rfl rfl rfl B17 (by kernel_rfl) (by rfl) (by rfl) (by rfl) (fun w60 B61 ho62=>?_)
   have szw60:=ho62.size
   have B2:=B2.only_ ho62 (by intro hin; simp at hin; exact Eob15_ob4 hin)
   have G8:=OwF.only G8 ho62 No9_ob15
   have Guxs33:=OwF.only Guxs33 ho62 Noxs33_ob15
   have G46:=OwF.only G46 ho62 Zo47_ob15
   have T:=T.trans (ho62.below (by first|(simp; done)|(simp; omega)))
   refine RL.nil<|then_n<|wp_seq<|wp_seq<|wp_rs rfl<|RQ.y rfl (Y.move (v:=.slice (some ⟨b57,0,none⟩) y43.length c51) rfl)<|RQ.y rfl (Y.len (by kernel_rfl) rfl)<|RQ.y rfl (Y.binI (v:=.bool (decide ((y43.length:Int) > 2))) rfl rfl rfl)<|RQ.nil<|then_n ?_
   rcases bcases (decide ((y43.length:Int) > 2)) with c63|c63
   ·replace hm:=cF c63 hm
    have pc63:=of_decide_eq_false c63
    refine cond_f rfl (vb rfl c63)<|wp_skip<|then_n<|wp_seq<|wp_seq<|wp_rs rfl<|RQ.y rfl (Y.move (v:=.slice (some ⟨b57,0,none⟩) y43.length c51) rfl)<|RQ.y rfl (Y.len (by kernel_rfl) rfl)<|RQ.y rfl (Y.binI (v:=.bool ((y43.length:Int)==2)) rfl rfl rfl)<|RQ.nil<|then_n ?_
    rcases bcases ((y43.length:Int)==2) with c64|c64
    ·replace hm:=cF c64 hm
     refine cond_f rfl (vb rfl c64)<|wp_skip<|then_n<|wp_seq<|wp_seq<|wp_rl rfl<|RL.y rfl (Y.move (v:=.slice (some ⟨b42,0,none⟩) xs33.length c36) s6_1x)<|RL.y rfl (Y.len (by kernel_rfl) rfl)<|RL.y rfl (Y.binI (v:=.bool ((xs33.length:Int)==2)) rfl rfl rfl)<|RL.y rfl (Y.move (v:=.bool ((xs33.length:Int)==2)) rfl) ?_
     rcases bcases ((xs33.length:Int)==2) with c65|c65
     ·replace hm:=cF c65 hm
      iterate 5 refine RL.skip (wantN (dj:=83) rfl (vb rfl c65) rfl) ?_
      refine RL.y rfl (Y.pick (b:=false) (v:=.bool false) (vb rfl c65) rfl)<|RL.nil<|then_n<|cond_f rfl rfl<|wp_skip<|then_n<|wp_seq<|wp_seq<|wp_rs rfl<|RQ.y rfl (Y.assign (v:=.int .i64 1) rfl)<|RQ.nil<|then_n<|wp_block ?_
      obtain ⟨K2,hK2,hm⟩ :∃K,K=m_spec_l11ReadAgent_A2∧m_spec_l11ReadAgent_L2 y5 K (d0.size+3) 1 (⟨0,0,0,[],[]⟩:DAgent) (⟨(kindNamed x52),0,0,[],[]⟩:DAgent)=some r:=⟨_,rfl,hm⟩
      refine wp_loopX (fun g f w'=>∃(i76:Int) (z77:DAgent) (z78:DAgent) (uz77_0:Value) (uz77_1:Value) (uz78_0:Value) (uz78_1:Value),f 2=.pointer (some ⟨w.heap.size,0,none⟩)∧f 4=.slice (some ⟨b26,0,none⟩) y5.length c20∧f 5=.pointer (some ⟨w10.heap.size,0,none⟩)∧f 11=.int .i64 i76∧0≤i76∧Blk w' w.heap.size 49 #[.int .i64 z77.kind,.int .i64 z77.level,.int .i64 z77.value,uz77_0,uz77_1]∧OwF 2 encI 1 w' w.heap.size uz77_0 z77.data∧OwF 61 encPort 2 w' w.heap.size uz77_1 z77.ports∧Blk w' w10.heap.size 49 #[.int .i64 z78.kind,.int .i64 z78.level,.int .i64 z78.value,uz78_0,uz78_1]∧OwF 2 encI 1 w' w.heap.size uz78_0 z78.data∧OwF 61 encPort 2 w' w.heap.size uz78_1 z78.ports∧Dj uz77_0 (.slice (some ⟨b26,0,none⟩) y5.length c20)∧Value.ownBlock uz77_0 ≠ some w.heap.size∧Value.ownBlock uz77_0 ≠ some w10.heap.size∧Dj uz77_1 uz77_0∧Dj uz77_1 (.slice (some ⟨b26,0,none⟩) y5.length c20)∧Value.ownBlock uz77_1 ≠ some w.heap.size∧Value.ownBlock uz77_1 ≠ some w10.heap.size∧Dj uz78_0 uz77_0∧Dj uz78_0 uz77_1∧Dj uz78_0 (.slice (some ⟨b26,0,none⟩) y5.length c20)∧Value.ownBlock uz78_0 ≠ some w.heap.size∧Value.ownBlock uz78_0 ≠ some w10.heap.size∧Dj uz78_1 uz77_0∧Dj uz78_1 uz77_1∧Dj uz78_1 uz78_0∧Dj uz78_1 (.slice (some ⟨b26,0,none⟩) y5.length c20)∧Value.ownBlock uz78_1 ≠ some w.heap.size∧Value.ownBlock uz78_1 ≠ some w10.heap.size∧OwF 9 encS 1 w' w.heap.size (.slice (some ⟨b26,0,none⟩) y5.length c20) y5∧Below w.heap.size w w'∧m_spec_l11ReadAgent_L2 y5 K2 g i76 z77 z78=some r) 2 (fun f w'=>∃(z66:DAgent) (z67:DAgent) (uz66_0:Value) (uz66_1:Value) (uz67_0:Value) (uz67_1:Value),f 2=.pointer (some ⟨w.heap.size,0,none⟩)∧f 5=.pointer (some ⟨w10.heap.size,0,none⟩)∧Blk w' w.heap.size 49 #[.int .i64 z66.kind,.int .i64 z66.level,.int .i64 z66.value,uz66_0,uz66_1]∧OwF 2 encI 1 w' w.heap.size uz66_0 z66.data∧OwF 61 encPort 2 w' w.heap.size uz66_1 z66.ports∧Blk w' w10.heap.size 49 #[.int .i64 z67.kind,.int .i64 z67.level,.int .i64 z67.value,uz67_0,uz67_1]∧OwF 2 encI 1 w' w.heap.size uz67_0 z67.data∧OwF 61 encPort 2 w' w.heap.size uz67_1 z67.ports∧Value.ownBlock uz66_0 ≠ some w.heap.size∧Value.ownBlock uz66_0 ≠ some w10.heap.size∧Dj uz66_1 uz66_0∧Value.ownBlock uz66_1 ≠ some w.heap.size∧Value.ownBlock uz66_1 ≠ some w10.heap.size∧Dj uz67_0 uz66_0∧Dj uz67_0 uz66_1∧Value.ownBlock uz67_0 ≠ some w.heap.size∧Value.ownBlock uz67_0 ≠ some w10.heap.size∧Dj uz67_1 uz66_0∧Dj uz67_1 uz66_1∧Dj uz67_1 uz67_0∧Value.ownBlock uz67_1 ≠ some w.heap.size∧Value.ownBlock uz67_1 ≠ some w10.heap.size∧Below w.heap.size w w'∧m_spec_l11ReadAgent_A2 z66 z67=some r) (d0.size+3) ⟨1,(⟨0,0,0,[],[]⟩:DAgent),(⟨(kindNamed x52),0,0,[],[]⟩:DAgent),(.slice none 0 0),(.slice none 0 0),(.slice none 0 0),(.slice none 0 0),s2_1x,s4_1x,s5_1x,rfl,(by omega),B2,OwF.nil,OwF.nil,B61,OwF.nil,OwF.nil,Dj.nil,nilNe (b:=w.heap.size),nilNe (b:=w10.heap.size),Dj.nil,Dj.nil,nilNe (b:=w.heap.size),nilNe (b:=w10.heap.size),Dj.nil,Dj.nil,Dj.nil,nilNe (b:=w.heap.size),nilNe (b:=w10.heap.size),Dj.nil,Dj.nil,Dj.nil,Dj.nil,nilNe (b:=w.heap.size),nilNe (b:=w10.heap.size),G8,T,hm⟩ ?_ ?_
      ·rintro f w68 ⟨z66,z67,uz66_0,uz66_1,uz67_0,uz67_1,s2_2x,s5_2x,Bz66,Guz66_0,Guz66_1,Bz67,Guz67_0,Guz67_1,Noz66_0_ob4,Noz66_0_ob15,Doz66_1_oz66_0,Noz66_1_ob4,Noz66_1_ob15,Doz67_0_oz66_0,Doz67_0_oz66_1,Noz67_0_ob4,Noz67_0_ob15,Doz67_1_oz66_0,Doz67_1_oz66_1,Doz67_1_oz67_0,Noz67_1_ob4,Noz67_1_ob15,T,hm⟩
       unfold m_spec_l11ReadAgent_A2 at hm
       refine blk_hit (then_n ?_)
       refine wp_seq<|wp_rl rfl<|RL.y rfl (Y.loadN (cs:=[.int .i64 z67.kind,.int .i64 z67.level,.int .i64 z67.value,uz67_0,uz67_1]) s5_2x (by kernel_rfl) (cells5 (eqC (blkCell Bz67 (i:=0) rfl)) (eqC (blkCell Bz67 (i:=1) rfl)) (eqC (blkCell Bz67 (i:=2) rfl)) (eqC (blkCell Bz67 (i:=3) rfl)) (eqC (blkCell Bz67 (i:=4) rfl)))) ?_
       obtain ⟨A69,c70,rfl⟩:=OwF.form Guz67_0
       have qbA69:=OwF.bound Guz67_0
       obtain ⟨A71,c72,rfl⟩:=OwF.form Guz67_1
       have qbA71:=OwF.bound Guz67_1
       refine RL.store (v:=.agg #[.int .i64 z67.kind,.int .i64 z67.level,.int .i64 z67.value,.slice A69 z67.data.length c70,.slice A71 z67.ports.length c72]) (cs':=#[.int .i64 z67.kind,.int .i64 z67.level,.int .i64 z67.value,.slice A69 z67.data.length c70,.slice A71 z67.ports.length c72]) rfl s2_2x rfl Bz66 (by kernel_rfl) (by rfl) (by rfl) (by rfl) (fun w73 B74 ho75=>?_)
       have szw73:=ho75.size
       have Bz67:=Bz67.only_ ho75 (by intro hin; simp at hin; exact Eob15_ob4.symm hin)
       have Guz66_0:=OwF.only Guz66_0 ho75 Noz66_0_ob4
       have Guz66_1:=OwF.only Guz66_1 ho75 Noz66_1_ob4
       have Guz67_0:=OwF.only Guz67_0 ho75 Noz67_0_ob4
       have Guz67_1:=OwF.only Guz67_1 ho75 Noz67_1_ob4
       have T:=T.trans (ho75.below (by first|(simp; done)|(simp; omega)))
       refine RL.y rfl (Y.assign (v:=.bool true) rfl)<|RL.nil<|then_n<|wp_ret ?_
       obtain rfl:=sj hm
       exact (retct (cs:=[.int .i64 z67.kind,.int .i64 z67.level,.int .i64 z67.value,.slice A69 z67.data.length c70,.slice A71 z67.ports.length c72]) rfl rfl s2_2x rfl (by kernel_rfl) (blkCells B74) ⟨⟨_,_,rfl,Guz67_0,Guz67_1,(Ap.dj (Ap.symm (Dj.ap Doz67_1_oz67_0)))⟩,T⟩)
      rintro g f w79 ⟨i76,z77,z78,uz77_0,uz77_1,uz78_0,uz78_1,s2_2,s4_2,s5_2,s11_2,nn11_2,Bz77,Guz77_0,Guz77_1,Bz78,Guz78_0,Guz78_1,Doz77_0_o9,Noz77_0_ob4,Noz77_0_ob15,Doz77_1_oz77_0,Doz77_1_o9,Noz77_1_ob4,Noz77_1_ob15,Doz78_0_oz77_0,Doz78_0_oz77_1,Doz78_0_o9,Noz78_0_ob4,Noz78_0_ob15,Doz78_1_oz77_0,Doz78_1_oz77_1,Doz78_1_oz78_0,Doz78_1_o9,Noz78_1_ob4,Noz78_1_ob15,G8,T,hm⟩
      rcases g with _|g
      ·simp only [m_spec_l11ReadAgent_L2] at hm; cases hm
      obtain ⟨rec2,hrec2,hm⟩ :∃z,z=m_spec_l11ReadAgent_L2 y5 K2 g∧m_spec_l11ReadAgent_B2 y5 z K2 i76 z77 z78=some r:=⟨_,rfl,hm⟩
      unfold m_spec_l11ReadAgent_B2 at hm
      refine wp_seq<|wp_seq<|wp_rs rfl<|RQ.y rfl (Y.move (v:=.int .i64 i76) s11_2)<|RQ.y rfl (Y.move (v:=.slice (some ⟨b26,0,none⟩) y5.length c20) s4_2)<|RQ.y rfl (Y.len (by kernel_rfl) rfl)<|RQ.y rfl (Y.binI (v:=.bool (decide (i76 < (y5.length:Int)))) rfl rfl rfl)<|RQ.nil<|then_n ?_
      rcases bcases (decide (i76 < (y5.length:Int))) with c80|c80
      ·replace hm:=cF c80 hm
       have pc80:=of_decide_eq_false c80
       refine cond_f rfl (vb rfl c80)<|wp_exit ?_
       exact (then_x (then_x (hit_x ⟨_,rfl,⟨z77,z78,(uz77_0),(uz77_1),(uz78_0),(uz78_1),s2_2,s5_2,Bz77,Guz77_0,Guz77_1,Bz78,Guz78_0,Guz78_1,(ap_ne (ne_ap Noz77_0_ob4)),(ap_ne (ne_ap Noz77_0_ob15)),(Ap.dj (Dj.ap Doz77_1_oz77_0)),(ap_ne (ne_ap Noz77_1_ob4)),(ap_ne (ne_ap Noz77_1_ob15)),(Ap.dj (Dj.ap Doz78_0_oz77_0)),(Ap.dj (Dj.ap Doz78_0_oz77_1)),(ap_ne (ne_ap Noz78_0_ob4)),(ap_ne (ne_ap Noz78_0_ob15)),(Ap.dj (Dj.ap Doz78_1_oz77_0)),(Ap.dj (Dj.ap Doz78_1_oz77_1)),(Ap.dj (Dj.ap Doz78_1_oz78_0)),(ap_ne (ne_ap Noz78_1_ob4)),(ap_ne (ne_ap Noz78_1_ob15)),T,(by rw [hK2] at hm; exact hm)⟩⟩)))
      replace hm:=cT c80 hm
      have pc80:=of_decide_eq_true c80
      refine cond_t rfl (vb rfl c80)<|wp_skip<|then_n<|wp_seq<|wp_block<|wp_seq<|wp_rl rfl<|RL.y rfl (Y.move (v:=.slice (some ⟨b26,0,none⟩) y5.length c20) s4_2)<|RL.y rfl (Y.move (v:=.int .i64 i76) s11_2) ?_
      obtain ⟨x81,hx83,hm⟩:=bnd hm
      obtain ⟨k82,hk84,hl85,hx83⟩:=getI_some hx83
      refine RL.y rfl (Y.indexAddr (m:=k82) (sz:=1) rfl rfl hk84 hl85 (by kernel_rfl))<|RL.y rfl (Y.load (v:=.string x81) rfl (by kernel_rfl) (eqC (OwF.cell fS G8 hx83 (j:=0) rfl))) ?_
      obtain ⟨y86,e87,hm⟩:=bnd hm
      refine RL.call rfl (am1 rfl) (by kernel_rfl) ((c_m_spec_l11ReadPort x81 _ e87  _ ).mono ?_)
      rintro _ w88 ⟨rfl,hb89⟩
      refine ⟨_,rfl,?_⟩
      have szw88:=hb89.size
      have Bz77:=blkT Bz77 hb89
      have Bz78:=blkT Bz78 hb89
      have G8:=OwF.below G8 hb89
      have Guz77_0:=OwF.below Guz77_0 hb89
      have Guz77_1:=OwF.below Guz77_1 hb89
      have Guz78_0:=OwF.below Guz78_0 hb89
      have Guz78_1:=OwF.below Guz78_1 hb89
      have T:=Tt T hb89
      refine RL.y rfl (Y.move (v:=.tuple #[.agg #[.int .i64 y86.1.agent,.int .i64 y86.1.slot],.bool y86.2]) rfl)<|RL.y rfl (Y.extract (i:=0) rfl rfl)<|RL.y rfl (Y.extract (i:=1) rfl rfl) ?_
      refine RL.alloc (z:=.agg #[.int .i64 0,.int .i64 0]) rfl (by kernel_rfl) (fun w90 B91 hb92 szw90=>?_)
      replace B91:Blk w90 w88.heap.size 61 #[.int .i64 0,.int .i64 0]:=B91
      have GB91:w.heap.size≤w88.heap.size:=T.size
      have Eob93_ob4:=Nat.ne_of_lt Bz77.lt
      have Eob93_ob15:=Nat.ne_of_lt Bz78.lt
      have No9_ob93:=OwF.far G8 (Nat.le_refl _)
      have Noz77_0_ob93:=OwF.far Guz77_0 (Nat.le_refl _)
      have Noz77_1_ob93:=OwF.far Guz77_1 (Nat.le_refl _)
      have Noz78_0_ob93:=OwF.far Guz78_0 (Nat.le_refl _)
      have Noz78_1_ob93:=OwF.far Guz78_1 (Nat.le_refl _)
      have Bz77:=blkT Bz77 hb92
      have Bz78:=blkT Bz78 hb92
      have G8:=OwF.below G8 hb92
      have Guz77_0:=OwF.below Guz77_0 hb92
      have Guz77_1:=OwF.below Guz77_1 hb92
      have Guz78_0:=OwF.below Guz78_0 hb92
      have Guz78_1:=OwF.below Guz78_1 hb92
      have T:=Tt T hb92
      refine RL.store (v:=.agg #[.int .i64 y86.1.agent,.int .i64 y86.1.slot]) (cs':=#[.int .i64 y86.1.agent,.int .i64 y86.1.slot]) rfl rfl rfl B91 (by kernel_rfl) (by rfl) (by rfl) (by rfl) (fun w94 B95 ho96=>?_)
      have szw94:=ho96.size
      have Bz77:=Bz77.only_ ho96 (by intro hin; simp at hin; exact Eob93_ob4 hin)
      have Bz78:=Bz78.only_ ho96 (by intro hin; simp at hin; exact Eob93_ob15 hin)
      have G8:=OwF.only G8 ho96 No9_ob93
      have Guz77_0:=OwF.only Guz77_0 ho96 Noz77_0_ob93
      have Guz77_1:=OwF.only Guz77_1 ho96 Noz77_1_ob93
      have Guz78_0:=OwF.only Guz78_0 ho96 Noz78_0_ob93
      have Guz78_1:=OwF.only Guz78_1 ho96 Noz78_1_ob93
      have T:=T.trans (ho96.below (by first|(simp; done)|(simp; omega)))
      refine RL.y rfl (Y.assign (v:=.bool y86.2) rfl)<|RL.nil<|then_n<|wp_seq<|wp_seq<|wp_rs rfl<|RQ.y rfl (Y.move (v:=.bool y86.2) rfl)<|RQ.y rfl (Y.not (b':=(!y86.2)) rfl rfl)<|RQ.nil<|then_n ?_
      rcases bcases y86.2 with c97|c97
      ·replace hm:=cF c97 hm
       refine cond_t rfl (vbn rfl c97 rfl)<|wp_seq<|wp_rl rfl<|RL.y rfl (Y.loadN (cs:=[.int .i64 z78.kind,.int .i64 z78.level,.int .i64 z78.value,uz78_0,uz78_1]) s5_2 (by kernel_rfl) (cells5 (eqC (blkCell Bz78 (i:=0) rfl)) (eqC (blkCell Bz78 (i:=1) rfl)) (eqC (blkCell Bz78 (i:=2) rfl)) (eqC (blkCell Bz78 (i:=3) rfl)) (eqC (blkCell Bz78 (i:=4) rfl)))) ?_
       obtain ⟨A98,c99,rfl⟩:=OwF.form Guz78_0
       have qbA98:=OwF.bound Guz78_0
       obtain ⟨A100,c101,rfl⟩:=OwF.form Guz78_1
       have qbA100:=OwF.bound Guz78_1
       refine RL.store (v:=.agg #[.int .i64 z78.kind,.int .i64 z78.level,.int .i64 z78.value,.slice A98 z78.data.length c99,.slice A100 z78.ports.length c101]) (cs':=#[.int .i64 z78.kind,.int .i64 z78.level,.int .i64 z78.value,.slice A98 z78.data.length c99,.slice A100 z78.ports.length c101]) rfl s2_2 rfl Bz77 (by kernel_rfl) (by rfl) (by rfl) (by rfl) (fun w102 B103 ho104=>?_)
       have szw102:=ho104.size
       have Bz78:=Bz78.only_ ho104 (by intro hin; simp at hin; exact Eob15_ob4.symm hin)
       have B95:=B95.only_ ho104 (by intro hin; simp at hin; exact Eob93_ob4.symm hin)
       have G8:=OwF.only G8 ho104 Zo9_ob4
       have Guz77_0:=OwF.only Guz77_0 ho104 Noz77_0_ob4
       have Guz77_1:=OwF.only Guz77_1 ho104 Noz77_1_ob4
       have Guz78_0:=OwF.only Guz78_0 ho104 Noz78_0_ob4
       have Guz78_1:=OwF.only Guz78_1 ho104 Noz78_1_ob4
       have T:=T.trans (ho104.below (by first|(simp; done)|(simp; omega)))
       refine RL.y rfl (Y.assign (v:=.bool false) rfl)<|RL.nil<|then_n<|wp_ret ?_
       obtain rfl:=sj hm
       exact (then_r (blk_r (then_r (then_r (hit_r (blk_r (then_r (retct (cs:=[.int .i64 z78.kind,.int .i64 z78.level,.int .i64 z78.value,.slice A98 z78.data.length c99,.slice A100 z78.ports.length c101]) rfl rfl s2_2 rfl (by kernel_rfl) (blkCells B103) ⟨⟨_,_,rfl,Guz78_0,Guz78_1,(Ap.dj (Ap.symm (Dj.ap Doz78_1_oz78_0)))⟩,T⟩))))))))
      replace hm:=cT c97 hm
      refine cond_f rfl (vbn rfl c97 rfl)<|wp_skip<|then_n<|wp_rl rfl<|RL.y rfl (Y.fieldAddr (off:=4) s5_2 (by kernel_rfl))<|RL.y rfl (Y.load (v:=uz78_1) rfl (by kernel_rfl) (eqC (blkCell Bz78 (i:=4) rfl)))<|RL.y rfl (Y.loadN (cs:=[.int .i64 y86.1.agent,.int .i64 y86.1.slot]) rfl (by kernel_rfl) (cells2 (eqC (blkCell B95 (i:=0) rfl)) (eqC (blkCell B95 (i:=1) rfl)))) ?_
      refine RL.bslice (e:=61) (cells:=#[.int .i64 y86.1.agent,.int .i64 y86.1.slot]) rfl (pm1 rfl) (by kernel_rfl) (fun w105 B106 hb107 szw105=>?_)
      have ZB106:w.heap.size≤w94.heap.size:=T.size
      have No108_ob4:=litNe (n:=1) (c:=1) Bz77.lt
      have No108_ob15:=litNe (n:=1) (c:=1) Bz78.lt
      have No108_ob93:=litNe (n:=1) (c:=1) B95.lt
      have Do108_o9:=Dj.new (v:=.slice (some ⟨w94.heap.size,0,none⟩) 1 1) litGe (OwF.hi G8)
      have Do108_oz77_0:=Dj.new (v:=.slice (some ⟨w94.heap.size,0,none⟩) 1 1) litGe (OwF.hi Guz77_0)
      have Do108_oz77_1:=Dj.new (v:=.slice (some ⟨w94.heap.size,0,none⟩) 1 1) litGe (OwF.hi Guz77_1)
      have Do108_oz78_0:=Dj.new (v:=.slice (some ⟨w94.heap.size,0,none⟩) 1 1) litGe (OwF.hi Guz78_0)
      have Do108_oz78_1:=Dj.new (v:=.slice (some ⟨w94.heap.size,0,none⟩) 1 1) litGe (OwF.hi Guz78_1)
      have Bz77:=blkT Bz77 hb107
      have Bz78:=blkT Bz78 hb107
      have B95:=blkT B95 hb107
      have G8:=OwF.below G8 hb107
      have Guz77_0:=OwF.below Guz77_0 hb107
      have Guz77_1:=OwF.below Guz77_1 hb107
      have Guz78_0:=OwF.below Guz78_0 hb107
      have Guz78_1:=OwF.below Guz78_1 hb107
      have T:=Tt T hb107
      have G109:=OwF.lit (enc:=encPort) (sz:=2) (xs:=[y86.1]) B106 ZB106 rfl rfl rfl rfl
      obtain ⟨_,m111,hm⟩:=bnd hm
      have hk112:=mustP_some m111
      refine RL.append fPort app_impl_Port rfl rfl rfl Guz78_1 (OwF.arg fPort G109) T.size hk112 (fun v113 w114 G115 hgr116 hbl117 hnb118=>?_)
      have szw114:=hbl117.size
      have No119_ob4:=ne_app hnb118 Noz78_1_ob4 Bz77.lt
      have No119_ob15:=ne_app hnb118 Noz78_1_ob15 Bz78.lt
      have No119_ob93:=ne_app hnb118 Noz78_1_ob93 B95.lt
      have Do119_o9:=Dj.app Doz78_1_o9 hnb118 (OwF.hi G8)
      have Do119_oz77_0:=Dj.app Doz78_1_oz77_0 hnb118 (OwF.hi Guz77_0)
      have Do119_oz77_1:=Dj.app Doz78_1_oz77_1 hnb118 (OwF.hi Guz77_1)
      have Do119_oz78_0:=Dj.app Doz78_1_oz78_0 hnb118 (OwF.hi Guz78_0)
      have Bz77:=Blk.kept Bz77 hgr116 Noz78_1_ob4
      have Bz78:=Blk.kept Bz78 hgr116 Noz78_1_ob15
      have B95:=Blk.kept B95 hgr116 Noz78_1_ob93
      have G8:=OwF.keptD G8 hgr116 (Dj.symm Doz78_1_o9)
      have Guz77_0:=OwF.keptD Guz77_0 hgr116 (Dj.symm Doz78_1_oz77_0)
      have Guz77_1:=OwF.keptD Guz77_1 hgr116 (Dj.symm Doz78_1_oz77_1)
      have Guz78_0:=OwF.keptD Guz78_0 hgr116 (Dj.symm Doz78_1_oz78_0)
      have T:=T.trans hbl117
      refine RL.y rfl (Y.fieldAddr (off:=4) s5_2 (by kernel_rfl)) ?_
      obtain ⟨A120,c121,rfl⟩:=OwF.form G115
      have qbA120:=OwF.bound G115
      refine RL.store (v:=.slice A120 ((z78.ports ++ [y86.1]).length) c121) (cs':=#[.int .i64 z78.kind,.int .i64 z78.level,.int .i64 z78.value,uz78_0,.slice A120 ((z78.ports ++ [y86.1]).length) c121]) rfl rfl rfl Bz78 (by kernel_rfl) (by rfl) (by rfl) (by rfl) (fun w122 B123 ho124=>?_)
      have szw122:=ho124.size
      have Bz77:=Bz77.only_ ho124 (by intro hin; simp at hin; exact Eob15_ob4 hin)
      have B95:=B95.only_ ho124 (by intro hin; simp at hin; exact Eob93_ob15.symm hin)
      have G8:=OwF.only G8 ho124 No9_ob15
      have Guz77_0:=OwF.only Guz77_0 ho124 Noz77_0_ob15
      have Guz77_1:=OwF.only Guz77_1 ho124 Noz77_1_ob15
      have Guz78_0:=OwF.only Guz78_0 ho124 Noz78_0_ob15
      have G115:=OwF.only G115 ho124 No119_ob15
      have T:=T.trans (ho124.below (by first|(simp; done)|(simp; omega)))
      refine RL.nil ?_
      refine blk_n (then_n ?_)
      refine wp_rs rfl<|RQ.y rfl (Y.move (v:=.int .i64 i76) s11_2)<|RQ.y rfl (Y.binI rfl rfl (binI_add (m:=i76) (by omega)))<|RQ.y rfl (Y.assign (v:=.int .i64 (i76+1)) rfl)<|RQ.nil ?_
      exact (then_n ⟨g,_,Nat.lt_succ_self _,rfl,⟨(i76+1),z77,(⟨z78.kind,z78.level,z78.value,z78.data,(z78.ports ++ [y86.1])⟩:DAgent),(uz77_0),(uz77_1),(uz78_0),(.slice A120 ((z78.ports ++ [y86.1]).length) c121),s2_2,s4_2,s5_2,rfl,(by omega),Bz77,Guz77_0,Guz77_1,B123,Guz78_0,G115,(Ap.dj (Dj.ap Doz77_0_o9)),(ap_ne (ne_ap Noz77_0_ob4)),(ap_ne (ne_ap Noz77_0_ob15)),(Ap.dj (Dj.ap Doz77_1_oz77_0)),(Ap.dj (Dj.ap Doz77_1_o9)),(ap_ne (ne_ap Noz77_1_ob4)),(ap_ne (ne_ap Noz77_1_ob15)),(Ap.dj (Dj.ap Doz78_0_oz77_0)),(Ap.dj (Dj.ap Doz78_0_oz77_1)),(Ap.dj (Dj.ap Doz78_0_o9)),(ap_ne (ne_ap Noz78_0_ob4)),(ap_ne (ne_ap Noz78_0_ob15)),(Ap.dj (Dj.ap Do119_oz77_0)),(Ap.dj (Dj.ap Do119_oz77_1)),(Ap.dj (Dj.ap Do119_oz78_0)),(Ap.dj (Dj.ap Do119_o9)),(ap_ne (ne_ap No119_ob4)),(ap_ne (ne_ap No119_ob15)),G8,T,(by rw [← hrec2]; exact hm)⟩⟩)
     replace hm:=cT c65 hm
     refine RL.y (wantT (dj:=83) rfl (vb rfl c65)) (Y.move (v:=.slice (some ⟨b42,0,none⟩) xs33.length c36) s6_1x) ?_
     obtain ⟨x126,hx128,hm⟩:=bnd hm
     obtain ⟨k127,hk129,hl130,hx128⟩:=getI_some hx128
     refine RL.y (wantT (dj:=83) rfl (vb rfl c65)) (Y.indexAddr (m:=k127) (sz:=1) rfl rfl hk129 hl130 (by kernel_rfl))<|RL.y (wantT (dj:=83) rfl (vb rfl c65)) (Y.load (v:=.string x126) rfl (by kernel_rfl) (eqC (OwF.cell fS Guxs33 hx128 (j:=0) rfl))) ?_
     obtain ⟨y131,e132,hm⟩:=bnd hm
     refine RL.call (wantT (dj:=83) rfl (vb rfl c65)) (am2 s5_1x rfl) (by kernel_rfl) ((c_m_spec_l11ReadContent (⟨(kindNamed x52),0,0,[],[]⟩:DAgent) x126 _ e132  w w60 T  _ B61 GB13).mono ?_)
     rintro _ w139 ⟨⟨v133,v136,rfl,G134,G137,Ro135_o138,B142⟩,K140,hb141⟩
     refine ⟨_,rfl,?_⟩
     have szw139:=K140.size
     have T0w139:=T.size
     have Zo135_ob4:=ap_ne (Ap.new (OwF.flo G134) (one_hi B2.lt))
     have Zo135_ob15:=ap_ne (Ap.new (OwF.flo G134) (one_hi B61.lt))
     have Zo135_o9:=Ap.dj (Ap.new (OwF.flo G134) (OwF.fhi G8))
     have Zo135_oxs33:=Ap.dj (Ap.new (OwF.flo G134) (OwF.fhi Guxs33))
     have Zo135_o47:=Ap.dj (Ap.new (OwF.flo G134) (OwF.fhi G46))
     have Zo138_ob4:=ap_ne (Ap.new (OwF.flo G137) (one_hi B2.lt))
     have Zo138_ob15:=ap_ne (Ap.new (OwF.flo G137) (one_hi B61.lt))
     have Zo138_o9:=Ap.dj (Ap.new (OwF.flo G137) (OwF.fhi G8))
     have Zo138_oxs33:=Ap.dj (Ap.new (OwF.flo G137) (OwF.fhi Guxs33))
     have Zo138_o47:=Ap.dj (Ap.new (OwF.flo G137) (OwF.fhi G46))
     have B2:=Blk.keepV B2 K140 (cellNe Eob15_ob4) (cellNe Eob15_ob4)
     have G8:=OwF.keepV G8 K140 (cellDj No9_ob15) (cellDj No9_ob15)
     have Guxs33:=OwF.keepV Guxs33 K140 (cellDj Noxs33_ob15) (cellDj Noxs33_ob15)
     have G46:=OwF.keepV G46 K140 (cellDj Zo47_ob15) (cellDj Zo47_ob15)
     have T:=hb141
     replace G134:=OwF.mono G134 T0w139
     replace G137:=OwF.mono G137 T0w139
     refine RL.y (wantT (dj:=83) rfl (vb rfl c65)) (Y.not (b':=(!y131.1)) rfl rfl)<|RL.y rfl (Y.pick (b:=true) (v:=.bool (!y131.1)) (vb rfl c65) rfl)<|RL.nil<|then_n ?_
     rcases bcases y131.1 with c143|c143
     ·replace hm:=cF c143 hm
      refine cond_t rfl (vbn rfl c143 rfl)<|wp_seq<|wp_rl rfl<|RL.y rfl (Y.loadN (cs:=[.int .i64 y131.2.kind,.int .i64 y131.2.level,.int .i64 y131.2.value,v133,v136]) s5_1x (by kernel_rfl) (cells5 (eqC (blkCell B142 (i:=0) rfl)) (eqC (blkCell B142 (i:=1) rfl)) (eqC (blkCell B142 (i:=2) rfl)) (eqC (blkCell B142 (i:=3) rfl)) (eqC (blkCell B142 (i:=4) rfl)))) ?_
      obtain ⟨A144,c145,rfl⟩:=OwF.form G134
      have qbA144:=OwF.bound G134
      obtain ⟨A146,c147,rfl⟩:=OwF.form G137
      have qbA146:=OwF.bound G137
      refine RL.store (v:=.agg #[.int .i64 y131.2.kind,.int .i64 y131.2.level,.int .i64 y131.2.value,.slice A144 y131.2.data.length c145,.slice A146 y131.2.ports.length c147]) (cs':=#[.int .i64 y131.2.kind,.int .i64 y131.2.level,.int .i64 y131.2.value,.slice A144 y131.2.data.length c145,.slice A146 y131.2.ports.length c147]) rfl s2_1x rfl B2 (by kernel_rfl) (by rfl) (by rfl) (by rfl) (fun w148 B149 ho150=>?_)
      have szw148:=ho150.size
      have B142:=B142.only_ ho150 (by intro hin; simp at hin; exact Eob15_ob4.symm hin)
      have G8:=OwF.only G8 ho150 Zo9_ob4
      have G134:=OwF.only G134 ho150 Zo135_ob4
      have G137:=OwF.only G137 ho150 Zo138_ob4
      have T:=T.trans (ho150.below (by first|(simp; done)|(simp; omega)))
      refine RL.y rfl (Y.assign (v:=.bool false) rfl)<|RL.nil<|then_n<|wp_ret ?_
      obtain rfl:=sj hm
      exact (then_r (retct (cs:=[.int .i64 y131.2.kind,.int .i64 y131.2.level,.int .i64 y131.2.value,.slice A144 y131.2.data.length c145,.slice A146 y131.2.ports.length c147]) rfl rfl s2_1x rfl (by kernel_rfl) (blkCells B149) ⟨⟨_,_,rfl,G134,G137,(Ap.dj (Dj.ap Ro135_o138))⟩,T⟩))
     replace hm:=cT c143 hm
     refine cond_f rfl (vbn rfl c143 rfl)<|wp_skip<|then_n<|wp_seq<|wp_seq<|wp_rs rfl<|RQ.y rfl (Y.assign (v:=.int .i64 1) rfl)<|RQ.nil<|then_n<|wp_block ?_
     obtain ⟨K3,hK3,hm⟩ :∃K,K=m_spec_l11ReadAgent_A3∧m_spec_l11ReadAgent_L3 y5 K (d0.size+3) 1 (⟨0,0,0,[],[]⟩:DAgent) (⟨y131.2.kind,y131.2.level,y131.2.value,y131.2.data,y131.2.ports⟩:DAgent)=some r:=⟨_,rfl,hm⟩
     refine wp_loopX (fun g f w'=>∃(i161:Int) (z162:DAgent) (z163:DAgent) (uz162_0:Value) (uz162_1:Value) (uz163_0:Value) (uz163_1:Value),f 2=.pointer (some ⟨w.heap.size,0,none⟩)∧f 4=.slice (some ⟨b26,0,none⟩) y5.length c20∧f 5=.pointer (some ⟨w10.heap.size,0,none⟩)∧f 11=.int .i64 i161∧0≤i161∧Blk w' w.heap.size 49 #[.int .i64 z162.kind,.int .i64 z162.level,.int .i64 z162.value,uz162_0,uz162_1]∧OwF 2 encI 1 w' w.heap.size uz162_0 z162.data∧OwF 61 encPort 2 w' w.heap.size uz162_1 z162.ports∧Blk w' w10.heap.size 49 #[.int .i64 z163.kind,.int .i64 z163.level,.int .i64 z163.value,uz163_0,uz163_1]∧OwF 2 encI 1 w' w.heap.size uz163_0 z163.data∧OwF 61 encPort 2 w' w.heap.size uz163_1 z163.ports∧Dj uz162_0 (.slice (some ⟨b26,0,none⟩) y5.length c20)∧Value.ownBlock uz162_0 ≠ some w.heap.size∧Value.ownBlock uz162_0 ≠ some w10.heap.size∧Dj uz162_1 uz162_0∧Dj uz162_1 (.slice (some ⟨b26,0,none⟩) y5.length c20)∧Value.ownBlock uz162_1 ≠ some w.heap.size∧Value.ownBlock uz162_1 ≠ some w10.heap.size∧Dj uz163_0 uz162_0∧Dj uz163_0 uz162_1∧Dj uz163_0 (.slice (some ⟨b26,0,none⟩) y5.length c20)∧Value.ownBlock uz163_0 ≠ some w.heap.size∧Value.ownBlock uz163_0 ≠ some w10.heap.size∧Dj uz163_1 uz162_0∧Dj uz163_1 uz162_1∧Dj uz163_1 uz163_0∧Dj uz163_1 (.slice (some ⟨b26,0,none⟩) y5.length c20)∧Value.ownBlock uz163_1 ≠ some w.heap.size∧Value.ownBlock uz163_1 ≠ some w10.heap.size∧OwF 9 encS 1 w' w.heap.size (.slice (some ⟨b26,0,none⟩) y5.length c20) y5∧Below w.heap.size w w'∧m_spec_l11ReadAgent_L3 y5 K3 g i161 z162 z163=some r) 2 (fun f w'=>∃(z151:DAgent) (z152:DAgent) (uz151_0:Value) (uz151_1:Value) (uz152_0:Value) (uz152_1:Value),f 2=.pointer (some ⟨w.heap.size,0,none⟩)∧f 5=.pointer (some ⟨w10.heap.size,0,none⟩)∧Blk w' w.heap.size 49 #[.int .i64 z151.kind,.int .i64 z151.level,.int .i64 z151.value,uz151_0,uz151_1]∧OwF 2 encI 1 w' w.heap.size uz151_0 z151.data∧OwF 61 encPort 2 w' w.heap.size uz151_1 z151.ports∧Blk w' w10.heap.size 49 #[.int .i64 z152.kind,.int .i64 z152.level,.int .i64 z152.value,uz152_0,uz152_1]∧OwF 2 encI 1 w' w.heap.size uz152_0 z152.data∧OwF 61 encPort 2 w' w.heap.size uz152_1 z152.ports∧Value.ownBlock uz151_0 ≠ some w.heap.size∧Value.ownBlock uz151_0 ≠ some w10.heap.size∧Dj uz151_1 uz151_0∧Value.ownBlock uz151_1 ≠ some w.heap.size∧Value.ownBlock uz151_1 ≠ some w10.heap.size∧Dj uz152_0 uz151_0∧Dj uz152_0 uz151_1∧Value.ownBlock uz152_0 ≠ some w.heap.size∧Value.ownBlock uz152_0 ≠ some w10.heap.size∧Dj uz152_1 uz151_0∧Dj uz152_1 uz151_1∧Dj uz152_1 uz152_0∧Value.ownBlock uz152_1 ≠ some w.heap.size∧Value.ownBlock uz152_1 ≠ some w10.heap.size∧Below w.heap.size w w'∧m_spec_l11ReadAgent_A3 z151 z152=some r) (d0.size+3) ⟨1,(⟨0,0,0,[],[]⟩:DAgent),(⟨y131.2.kind,y131.2.level,y131.2.value,y131.2.data,y131.2.ports⟩:DAgent),(.slice none 0 0),(.slice none 0 0),(v133),(v136),s2_1x,s4_1x,s5_1x,rfl,(by omega),B2,OwF.nil,OwF.nil,B142,G134,G137,Dj.nil,nilNe (b:=w.heap.size),nilNe (b:=w10.heap.size),Dj.nil,Dj.nil,nilNe (b:=w.heap.size),nilNe (b:=w10.heap.size),(Dj.symm Dj.nil),(Dj.symm Dj.nil),(Ap.dj (Dj.ap Zo135_o9)),(ap_ne (ne_ap Zo135_ob4)),(ap_ne (ne_ap Zo135_ob15)),(Dj.symm Dj.nil),(Dj.symm Dj.nil),(Ap.dj (Ap.symm (Dj.ap Ro135_o138))),(Ap.dj (Dj.ap Zo138_o9)),(ap_ne (ne_ap Zo138_ob4)),(ap_ne (ne_ap Zo138_ob15)),G8,T,hm⟩ ?_ ?_
     ·rintro f w153 ⟨z151,z152,uz151_0,uz151_1,uz152_0,uz152_1,s2_3x,s5_3x,Bz151,Guz151_0,Guz151_1,Bz152,Guz152_0,Guz152_1,Noz151_0_ob4,Noz151_0_ob15,Doz151_1_oz151_0,Noz151_1_ob4,Noz151_1_ob15,Doz152_0_oz151_0,Doz152_0_oz151_1,Noz152_0_ob4,Noz152_0_ob15,Doz152_1_oz151_0,Doz152_1_oz151_1,Doz152_1_oz152_0,Noz152_1_ob4,Noz152_1_ob15,T,hm⟩
      unfold m_spec_l11ReadAgent_A3 at hm
      refine blk_hit (then_n ?_)
      refine wp_seq<|wp_rl rfl<|RL.y rfl (Y.loadN (cs:=[.int .i64 z152.kind,.int .i64 z152.level,.int .i64 z152.value,uz152_0,uz152_1]) s5_3x (by kernel_rfl) (cells5 (eqC (blkCell Bz152 (i:=0) rfl)) (eqC (blkCell Bz152 (i:=1) rfl)) (eqC (blkCell Bz152 (i:=2) rfl)) (eqC (blkCell Bz152 (i:=3) rfl)) (eqC (blkCell Bz152 (i:=4) rfl)))) ?_
      obtain ⟨A154,c155,rfl⟩:=OwF.form Guz152_0
      have qbA154:=OwF.bound Guz152_0
      obtain ⟨A156,c157,rfl⟩:=OwF.form Guz152_1
      have qbA156:=OwF.bound Guz152_1
      refine RL.store (v:=.agg #[.int .i64 z152.kind,.int .i64 z152.level,.int .i64 z152.value,.slice A154 z152.data.length c155,.slice A156 z152.ports.length c157]) (cs':=#[.int .i64 z152.kind,.int .i64 z152.level,.int .i64 z152.value,.slice A154 z152.data.length c155,.slice A156 z152.ports.length c157]) rfl s2_3x rfl Bz151 (by kernel_rfl) (by rfl) (by rfl) (by rfl) (fun w158 B159 ho160=>?_)
      have szw158:=ho160.size
      have Bz152:=Bz152.only_ ho160 (by intro hin; simp at hin; exact Eob15_ob4.symm hin)
      have Guz151_0:=OwF.only Guz151_0 ho160 Noz151_0_ob4
      have Guz151_1:=OwF.only Guz151_1 ho160 Noz151_1_ob4
      have Guz152_0:=OwF.only Guz152_0 ho160 Noz152_0_ob4
      have Guz152_1:=OwF.only Guz152_1 ho160 Noz152_1_ob4
      have T:=T.trans (ho160.below (by first|(simp; done)|(simp; omega)))
      refine RL.y rfl (Y.assign (v:=.bool true) rfl)<|RL.nil<|then_n<|wp_ret ?_
      obtain rfl:=sj hm
      exact (retct (cs:=[.int .i64 z152.kind,.int .i64 z152.level,.int .i64 z152.value,.slice A154 z152.data.length c155,.slice A156 z152.ports.length c157]) rfl rfl s2_3x rfl (by kernel_rfl) (blkCells B159) ⟨⟨_,_,rfl,Guz152_0,Guz152_1,(Ap.dj (Ap.symm (Dj.ap Doz152_1_oz152_0)))⟩,T⟩)
     rintro g f w164 ⟨i161,z162,z163,uz162_0,uz162_1,uz163_0,uz163_1,s2_3,s4_3,s5_3,s11_3,nn11_3,Bz162,Guz162_0,Guz162_1,Bz163,Guz163_0,Guz163_1,Doz162_0_o9,Noz162_0_ob4,Noz162_0_ob15,Doz162_1_oz162_0,Doz162_1_o9,Noz162_1_ob4,Noz162_1_ob15,Doz163_0_oz162_0,Doz163_0_oz162_1,Doz163_0_o9,Noz163_0_ob4,Noz163_0_ob15,Doz163_1_oz162_0,Doz163_1_oz162_1,Doz163_1_oz163_0,Doz163_1_o9,Noz163_1_ob4,Noz163_1_ob15,G8,T,hm⟩
     rcases g with _|g
     ·simp only [m_spec_l11ReadAgent_L3] at hm; cases hm
     obtain ⟨rec3,hrec3,hm⟩ :∃z,z=m_spec_l11ReadAgent_L3 y5 K3 g∧m_spec_l11ReadAgent_B3 y5 z K3 i161 z162 z163=some r:=⟨_,rfl,hm⟩
     unfold m_spec_l11ReadAgent_B3 at hm
     refine wp_seq<|wp_seq<|wp_rs rfl<|RQ.y rfl (Y.move (v:=.int .i64 i161) s11_3)<|RQ.y rfl (Y.move (v:=.slice (some ⟨b26,0,none⟩) y5.length c20) s4_3)<|RQ.y rfl (Y.len (by kernel_rfl) rfl)<|RQ.y rfl (Y.binI (v:=.bool (decide (i161 < (y5.length:Int)))) rfl rfl rfl)<|RQ.nil<|then_n ?_
     rcases bcases (decide (i161 < (y5.length:Int))) with c165|c165
     ·replace hm:=cF c165 hm
      have pc165:=of_decide_eq_false c165
      refine cond_f rfl (vb rfl c165)<|wp_exit ?_
      exact (then_x (then_x (hit_x ⟨_,rfl,⟨z162,z163,(uz162_0),(uz162_1),(uz163_0),(uz163_1),s2_3,s5_3,Bz162,Guz162_0,Guz162_1,Bz163,Guz163_0,Guz163_1,(ap_ne (ne_ap Noz162_0_ob4)),(ap_ne (ne_ap Noz162_0_ob15)),(Ap.dj (Dj.ap Doz162_1_oz162_0)),(ap_ne (ne_ap Noz162_1_ob4)),(ap_ne (ne_ap Noz162_1_ob15)),(Ap.dj (Dj.ap Doz163_0_oz162_0)),(Ap.dj (Dj.ap Doz163_0_oz162_1)),(ap_ne (ne_ap Noz163_0_ob4)),(ap_ne (ne_ap Noz163_0_ob15)),(Ap.dj (Dj.ap Doz163_1_oz162_0)),(Ap.dj (Dj.ap Doz163_1_oz162_1)),(Ap.dj (Dj.ap Doz163_1_oz163_0)),(ap_ne (ne_ap Noz163_1_ob4)),(ap_ne (ne_ap Noz163_1_ob15)),T,(by rw [hK3] at hm; exact hm)⟩⟩)))
     replace hm:=cT c165 hm
     have pc165:=of_decide_eq_true c165
     refine cond_t rfl (vb rfl c165)<|wp_skip<|then_n<|wp_seq<|wp_block<|wp_seq<|wp_rl rfl<|RL.y rfl (Y.move (v:=.slice (some ⟨b26,0,none⟩) y5.length c20) s4_3)<|RL.y rfl (Y.move (v:=.int .i64 i161) s11_3) ?_
     obtain ⟨x166,hx168,hm⟩:=bnd hm
     obtain ⟨k167,hk169,hl170,hx168⟩:=getI_some hx168
     refine RL.y rfl (Y.indexAddr (m:=k167) (sz:=1) rfl rfl hk169 hl170 (by kernel_rfl))<|RL.y rfl (Y.load (v:=.string x166) rfl (by kernel_rfl) (eqC (OwF.cell fS G8 hx168 (j:=0) rfl))) ?_
     obtain ⟨y171,e172,hm⟩:=bnd hm
     refine RL.call rfl (am1 rfl) (by kernel_rfl) ((c_m_spec_l11ReadPort x166 _ e172  _ ).mono ?_)
     rintro _ w173 ⟨rfl,hb174⟩
     refine ⟨_,rfl,?_⟩
     have szw173:=hb174.size
     have Bz162:=blkT Bz162 hb174
     have Bz163:=blkT Bz163 hb174
     have G8:=OwF.below G8 hb174
     have Guz162_0:=OwF.below Guz162_0 hb174
     have Guz162_1:=OwF.below Guz162_1 hb174
     have Guz163_0:=OwF.below Guz163_0 hb174
     have Guz163_1:=OwF.below Guz163_1 hb174
     have T:=Tt T hb174
     refine RL.y rfl (Y.move (v:=.tuple #[.agg #[.int .i64 y171.1.agent,.int .i64 y171.1.slot],.bool y171.2]) rfl)<|RL.y rfl (Y.extract (i:=0) rfl rfl)<|RL.y rfl (Y.extract (i:=1) rfl rfl) ?_
     refine RL.alloc (z:=.agg #[.int .i64 0,.int .i64 0]) rfl (by kernel_rfl) (fun w175 B176 hb177 szw175=>?_)
     replace B176:Blk w175 w173.heap.size 61 #[.int .i64 0,.int .i64 0]:=B176
     have GB176:w.heap.size≤w173.heap.size:=T.size
     have Eob178_ob4:=Nat.ne_of_lt Bz162.lt
     have Eob178_ob15:=Nat.ne_of_lt Bz163.lt
     have No9_ob178:=OwF.far G8 (Nat.le_refl _)
     have Noz162_0_ob178:=OwF.far Guz162_0 (Nat.le_refl _)
     have Noz162_1_ob178:=OwF.far Guz162_1 (Nat.le_refl _)
     have Noz163_0_ob178:=OwF.far Guz163_0 (Nat.le_refl _)
     have Noz163_1_ob178:=OwF.far Guz163_1 (Nat.le_refl _)
     have Bz162:=blkT Bz162 hb177
     have Bz163:=blkT Bz163 hb177
     have G8:=OwF.below G8 hb177
     have Guz162_0:=OwF.below Guz162_0 hb177
     have Guz162_1:=OwF.below Guz162_1 hb177
     have Guz163_0:=OwF.below Guz163_0 hb177
     have Guz163_1:=OwF.below Guz163_1 hb177
     have T:=Tt T hb177
     refine RL.store (v:=.agg #[.int .i64 y171.1.agent,.int .i64 y171.1.slot]) (cs':=#[.int .i64 y171.1.agent,.int .i64 y171.1.slot]) rfl rfl rfl B176 (by kernel_rfl) (by rfl) (by rfl) (by rfl) (fun w179 B180 ho181=>?_)
     have szw179:=ho181.size
     have Bz162:=Bz162.only_ ho181 (by intro hin; simp at hin; exact Eob178_ob4 hin)
     have Bz163:=Bz163.only_ ho181 (by intro hin; simp at hin; exact Eob178_ob15 hin)
     have G8:=OwF.only G8 ho181 No9_ob178
     have Guz162_0:=OwF.only Guz162_0 ho181 Noz162_0_ob178
     have Guz162_1:=OwF.only Guz162_1 ho181 Noz162_1_ob178
     have Guz163_0:=OwF.only Guz163_0 ho181 Noz163_0_ob178
     have Guz163_1:=OwF.only Guz163_1 ho181 Noz163_1_ob178
     have T:=T.trans (ho181.below (by first|(simp; done)|(simp; omega)))
     refine RL.y rfl (Y.assign (v:=.bool y171.2) rfl)<|RL.nil<|then_n<|wp_seq<|wp_seq<|wp_rs rfl<|RQ.y rfl (Y.move (v:=.bool y171.2) rfl)<|RQ.y rfl (Y.not (b':=(!y171.2)) rfl rfl)<|RQ.nil<|then_n ?_
     rcases bcases y171.2 with c182|c182
     ·replace hm:=cF c182 hm
      refine cond_t rfl (vbn rfl c182 rfl)<|wp_seq<|wp_rl rfl<|RL.y rfl (Y.loadN (cs:=[.int .i64 z163.kind,.int .i64 z163.level,.int .i64 z163.value,uz163_0,uz163_1]) s5_3 (by kernel_rfl) (cells5 (eqC (blkCell Bz163 (i:=0) rfl)) (eqC (blkCell Bz163 (i:=1) rfl)) (eqC (blkCell Bz163 (i:=2) rfl)) (eqC (blkCell Bz163 (i:=3) rfl)) (eqC (blkCell Bz163 (i:=4) rfl)))) ?_
      obtain ⟨A183,c184,rfl⟩:=OwF.form Guz163_0
      have qbA183:=OwF.bound Guz163_0
      obtain ⟨A185,c186,rfl⟩:=OwF.form Guz163_1
      have qbA185:=OwF.bound Guz163_1
      refine RL.store (v:=.agg #[.int .i64 z163.kind,.int .i64 z163.level,.int .i64 z163.value,.slice A183 z163.data.length c184,.slice A185 z163.ports.length c186]) (cs':=#[.int .i64 z163.kind,.int .i64 z163.level,.int .i64 z163.value,.slice A183 z163.data.length c184,.slice A185 z163.ports.length c186]) rfl s2_3 rfl Bz162 (by kernel_rfl) (by rfl) (by rfl) (by rfl) (fun w187 B188 ho189=>?_)
      have szw187:=ho189.size
      have Bz163:=Bz163.only_ ho189 (by intro hin; simp at hin; exact Eob15_ob4.symm hin)
      have B180:=B180.only_ ho189 (by intro hin; simp at hin; exact Eob178_ob4.symm hin)
      have G8:=OwF.only G8 ho189 Zo9_ob4
      have Guz162_0:=OwF.only Guz162_0 ho189 Noz162_0_ob4
      have Guz162_1:=OwF.only Guz162_1 ho189 Noz162_1_ob4
      have Guz163_0:=OwF.only Guz163_0 ho189 Noz163_0_ob4
      have Guz163_1:=OwF.only Guz163_1 ho189 Noz163_1_ob4
      have T:=T.trans (ho189.below (by first|(simp; done)|(simp; omega)))
      refine RL.y rfl (Y.assign (v:=.bool false) rfl)<|RL.nil<|then_n<|wp_ret ?_
      obtain rfl:=sj hm
      exact (then_r (blk_r (then_r (then_r (hit_r (blk_r (then_r (retct (cs:=[.int .i64 z163.kind,.int .i64 z163.level,.int .i64 z163.value,.slice A183 z163.data.length c184,.slice A185 z163.ports.length c186]) rfl rfl s2_3 rfl (by kernel_rfl) (blkCells B188) ⟨⟨_,_,rfl,Guz163_0,Guz163_1,(Ap.dj (Ap.symm (Dj.ap Doz163_1_oz163_0)))⟩,T⟩))))))))
     replace hm:=cT c182 hm
     refine cond_f rfl (vbn rfl c182 rfl)<|wp_skip<|then_n<|wp_rl rfl<|RL.y rfl (Y.fieldAddr (off:=4) s5_3 (by kernel_rfl))<|RL.y rfl (Y.load (v:=uz163_1) rfl (by kernel_rfl) (eqC (blkCell Bz163 (i:=4) rfl)))<|RL.y rfl (Y.loadN (cs:=[.int .i64 y171.1.agent,.int .i64 y171.1.slot]) rfl (by kernel_rfl) (cells2 (eqC (blkCell B180 (i:=0) rfl)) (eqC (blkCell B180 (i:=1) rfl)))) ?_
     refine RL.bslice (e:=61) (cells:=#[.int .i64 y171.1.agent,.int .i64 y171.1.slot]) rfl (pm1 rfl) (by kernel_rfl) (fun w190 B191 hb192 szw190=>?_)
     have ZB191:w.heap.size≤w179.heap.size:=T.size
     have No193_ob4:=litNe (n:=1) (c:=1) Bz162.lt
     have No193_ob15:=litNe (n:=1) (c:=1) Bz163.lt
     have No193_ob178:=litNe (n:=1) (c:=1) B180.lt
     have Do193_o9:=Dj.new (v:=.slice (some ⟨w179.heap.size,0,none⟩) 1 1) litGe (OwF.hi G8)
     have Do193_oz162_0:=Dj.new (v:=.slice (some ⟨w179.heap.size,0,none⟩) 1 1) litGe (OwF.hi Guz162_0)
     have Do193_oz162_1:=Dj.new (v:=.slice (some ⟨w179.heap.size,0,none⟩) 1 1) litGe (OwF.hi Guz162_1)
     have Do193_oz163_0:=Dj.new (v:=.slice (some ⟨w179.heap.size,0,none⟩) 1 1) litGe (OwF.hi Guz163_0)
     have Do193_oz163_1:=Dj.new (v:=.slice (some ⟨w179.heap.size,0,none⟩) 1 1) litGe (OwF.hi Guz163_1)
     have Bz162:=blkT Bz162 hb192
     have Bz163:=blkT Bz163 hb192
     have B180:=blkT B180 hb192
     have G8:=OwF.below G8 hb192
     have Guz162_0:=OwF.below Guz162_0 hb192
     have Guz162_1:=OwF.below Guz162_1 hb192
     have Guz163_0:=OwF.below Guz163_0 hb192
     have Guz163_1:=OwF.below Guz163_1 hb192
     have T:=Tt T hb192
     have G194:=OwF.lit (enc:=encPort) (sz:=2) (xs:=[y171.1]) B191 ZB191 rfl rfl rfl rfl
     obtain ⟨_,m196,hm⟩:=bnd hm
     have hk197:=mustP_some m196
     refine RL.append fPort app_impl_Port rfl rfl rfl Guz163_1 (OwF.arg fPort G194) T.size hk197 (fun v198 w199 G200 hgr201 hbl202 hnb203=>?_)
     have szw199:=hbl202.size
     have No204_ob4:=ne_app hnb203 Noz163_1_ob4 Bz162.lt
     have No204_ob15:=ne_app hnb203 Noz163_1_ob15 Bz163.lt
     have No204_ob178:=ne_app hnb203 Noz163_1_ob178 B180.lt
     have Do204_o9:=Dj.app Doz163_1_o9 hnb203 (OwF.hi G8)
     have Do204_oz162_0:=Dj.app Doz163_1_oz162_0 hnb203 (OwF.hi Guz162_0)
     have Do204_oz162_1:=Dj.app Doz163_1_oz162_1 hnb203 (OwF.hi Guz162_1)
     have Do204_oz163_0:=Dj.app Doz163_1_oz163_0 hnb203 (OwF.hi Guz163_0)
     have Bz162:=Blk.kept Bz162 hgr201 Noz163_1_ob4
     have Bz163:=Blk.kept Bz163 hgr201 Noz163_1_ob15
     have B180:=Blk.kept B180 hgr201 Noz163_1_ob178
     have G8:=OwF.keptD G8 hgr201 (Dj.symm Doz163_1_o9)
     have Guz162_0:=OwF.keptD Guz162_0 hgr201 (Dj.symm Doz163_1_oz162_0)
     have Guz162_1:=OwF.keptD Guz162_1 hgr201 (Dj.symm Doz163_1_oz162_1)
     have Guz163_0:=OwF.keptD Guz163_0 hgr201 (Dj.symm Doz163_1_oz163_0)
     have T:=T.trans hbl202
     refine RL.y rfl (Y.fieldAddr (off:=4) s5_3 (by kernel_rfl)) ?_
     obtain ⟨A205,c206,rfl⟩:=OwF.form G200
     have qbA205:=OwF.bound G200
     refine RL.store (v:=.slice A205 ((z163.ports ++ [y171.1]).length) c206) (cs':=#[.int .i64 z163.kind,.int .i64 z163.level,.int .i64 z163.value,uz163_0,.slice A205 ((z163.ports ++ [y171.1]).length) c206]) rfl rfl rfl Bz163 (by kernel_rfl) (by rfl) (by rfl) (by rfl) (fun w207 B208 ho209=>?_)
     have szw207:=ho209.size
     have Bz162:=Bz162.only_ ho209 (by intro hin; simp at hin; exact Eob15_ob4 hin)
     have B180:=B180.only_ ho209 (by intro hin; simp at hin; exact Eob178_ob15.symm hin)
     have G8:=OwF.only G8 ho209 No9_ob15
     have Guz162_0:=OwF.only Guz162_0 ho209 Noz162_0_ob15
     have Guz162_1:=OwF.only Guz162_1 ho209 Noz162_1_ob15
     have Guz163_0:=OwF.only Guz163_0 ho209 Noz163_0_ob15
     have G200:=OwF.only G200 ho209 No204_ob15
     have T:=T.trans (ho209.below (by first|(simp; done)|(simp; omega)))
     refine RL.nil ?_
     refine blk_n (then_n ?_)
     refine wp_rs rfl<|RQ.y rfl (Y.move (v:=.int .i64 i161) s11_3)<|RQ.y rfl (Y.binI rfl rfl (binI_add (m:=i161) (by omega)))<|RQ.y rfl (Y.assign (v:=.int .i64 (i161+1)) rfl)<|RQ.nil ?_
     exact (then_n ⟨g,_,Nat.lt_succ_self _,rfl,⟨(i161+1),z162,(⟨z163.kind,z163.level,z163.value,z163.data,(z163.ports ++ [y171.1])⟩:DAgent),(uz162_0),(uz162_1),(uz163_0),(.slice A205 ((z163.ports ++ [y171.1]).length) c206),s2_3,s4_3,s5_3,rfl,(by omega),Bz162,Guz162_0,Guz162_1,B208,Guz163_0,G200,(Ap.dj (Dj.ap Doz162_0_o9)),(ap_ne (ne_ap Noz162_0_ob4)),(ap_ne (ne_ap Noz162_0_ob15)),(Ap.dj (Dj.ap Doz162_1_oz162_0)),(Ap.dj (Dj.ap Doz162_1_o9)),(ap_ne (ne_ap Noz162_1_ob4)),(ap_ne (ne_ap Noz162_1_ob15)),(Ap.dj (Dj.ap Doz163_0_oz162_0)),(Ap.dj (Dj.ap Doz163_0_oz162_1)),(Ap.dj (Dj.ap Doz163_0_o9)),(ap_ne (ne_ap Noz163_0_ob4)),(ap_ne (ne_ap Noz163_0_ob15)),(Ap.dj (Dj.ap Do204_oz162_0)),(Ap.dj (Dj.ap Do204_oz162_1)),(Ap.dj (Dj.ap Do204_oz163_0)),(Ap.dj (Dj.ap Do204_o9)),(ap_ne (ne_ap No204_ob4)),(ap_ne (ne_ap No204_ob15)),G8,T,(by rw [← hrec3]; exact hm)⟩⟩)
    replace hm:=cT c64 hm
    refine cond_t rfl (vb rfl c64)<|wp_seq<|wp_rb rfl<|RQ.y rfl (Y.move (v:=.slice (some ⟨b57,0,none⟩) y43.length c51) rfl) ?_
    obtain ⟨x211,hx213,hm⟩:=bnd hm
    obtain ⟨k212,hk214,hl215,hx213⟩:=getI_some hx213
    refine RQ.y rfl (Y.indexAddr (m:=k212) (sz:=1) rfl rfl hk214 hl215 (by kernel_rfl))<|RQ.y rfl (Y.load (v:=.string x211) rfl (by kernel_rfl) (beC (OwF.cell fS G46 hx213 (j:=0) rfl))) ?_
    obtain ⟨y216,e217,hm⟩:=bnd hm
    refine RQ.call rfl (am1 rfl) (by kernel_rfl) (v:=.tuple #[.int .i64 y216.1,.bool y216.2]) (bel (K:=fun _=>True) fun w' hb'=>(c_m_spec_ReadDecimal x211 _ e217  w' ))<|RQ.y rfl (Y.move (v:=.tuple #[.int .i64 y216.1,.bool y216.2]) rfl)<|RQ.y rfl (Y.extract (i:=0) rfl rfl)<|RQ.y rfl (Y.extract (i:=1) rfl rfl)<|RQ.y rfl (Y.assign (v:=.int .i64 y216.1) rfl)<|RQ.y rfl (Y.assign (v:=.bool y216.2) rfl)<|RQ.nil ?_
    intro w218 hb219
    have szw218:=hb219.size
    have B2:=blkT B2 hb219
    have B61:=blkT B61 hb219
    have G8:=OwF.below G8 hb219
    have Guxs33:=OwF.below Guxs33 hb219
    have T:=Tt T hb219
    refine then_n<|wp_seq<|wp_seq<|wp_rs rfl<|RQ.y rfl (Y.move (v:=.bool y216.2) rfl)<|RQ.y rfl (Y.not (b':=(!y216.2)) rfl rfl)<|RQ.nil<|then_n ?_
    rcases bcases y216.2 with c220|c220
    ·replace hm:=cF c220 hm
     refine cond_t rfl (vbn rfl c220 rfl)<|wp_seq<|wp_rl rfl<|RL.y rfl (Y.loadN (cs:=[.int .i64 (kindNamed x52),.int .i64 0,.int .i64 0,.slice none 0 0,.slice none 0 0]) s5_1x (by kernel_rfl) (cells5 (eqC (blkCell B61 (i:=0) rfl)) (eqC (blkCell B61 (i:=1) rfl)) (eqC (blkCell B61 (i:=2) rfl)) (eqC (blkCell B61 (i:=3) rfl)) (eqC (blkCell B61 (i:=4) rfl)))) ?_
     refine RL.store (v:=.agg #[.int .i64 (kindNamed x52),.int .i64 0,.int .i64 0,.slice none 0 0,.slice none 0 0]) (cs':=#[.int .i64 (kindNamed x52),.int .i64 0,.int .i64 0,.slice none 0 0,.slice none 0 0]) rfl s2_1x rfl B2 (by kernel_rfl) (by rfl) (by rfl) (by rfl) (fun w221 B222 ho223=>?_)
     have szw221:=ho223.size
     have B61:=B61.only_ ho223 (by intro hin; simp at hin; exact Eob15_ob4.symm hin)
     have G8:=OwF.only G8 ho223 Zo9_ob4
     have Guxs33:=OwF.only Guxs33 ho223 Noxs33_ob4
     have T:=T.trans (ho223.below (by first|(simp; done)|(simp; omega)))
     refine RL.y rfl (Y.assign (v:=.bool false) rfl)<|RL.nil<|then_n<|wp_ret ?_
     obtain rfl:=sj hm
     exact (then_r (then_r (retct (cs:=[.int .i64 (kindNamed x52),.int .i64 0,.int .i64 0,.slice none 0 0,.slice none 0 0]) rfl rfl s2_1x rfl (by kernel_rfl) (blkCells B222) ⟨⟨_,_,rfl,OwF.nil,OwF.nil,Dj.nil⟩,T⟩)))
    replace hm:=cT c220 hm
    refine cond_f rfl (vbn rfl c220 rfl)<|wp_skip<|then_n<|wp_rl rfl<|RL.y rfl (Y.move (v:=.int .i64 y216.1) rfl)<|RL.y rfl (Y.fieldAddr (off:=1) s5_1x (by kernel_rfl)) ?_
    refine RL.store (v:=.int .i64 y216.1) (cs':=#[.int .i64 (kindNamed x52),.int .i64 y216.1,.int .i64 0,.slice none 0 0,.slice none 0 0]) rfl rfl rfl B61 (by kernel_rfl) (by rfl) (by rfl) (by rfl) (fun w224 B225 ho226=>?_)
    have szw224:=ho226.size
    have B2:=B2.only_ ho226 (by intro hin; simp at hin; exact Eob15_ob4 hin)
    have G8:=OwF.only G8 ho226 No9_ob15
    have Guxs33:=OwF.only Guxs33 ho226 Noxs33_ob15
    have T:=T.trans (ho226.below (by first|(simp; done)|(simp; omega)))
    refine RL.nil<|then_n<|wp_seq<|wp_seq<|wp_rl rfl<|RL.y rfl (Y.move (v:=.slice (some ⟨b42,0,none⟩) xs33.length c36) s6_1x)<|RL.y rfl (Y.len (by kernel_rfl) rfl)<|RL.y rfl (Y.binI (v:=.bool ((xs33.length:Int)==2)) rfl rfl rfl)<|RL.y rfl (Y.move (v:=.bool ((xs33.length:Int)==2)) rfl) ?_
    rcases bcases ((xs33.length:Int)==2) with c227|c227
    ·replace hm:=cF c227 hm
     iterate 5 refine RL.skip (wantN (dj:=83) rfl (vb rfl c227) rfl) ?_
     refine RL.y rfl (Y.pick (b:=false) (v:=.bool false) (vb rfl c227) rfl)<|RL.nil<|then_n<|cond_f rfl rfl<|wp_skip<|then_n<|wp_seq<|wp_seq<|wp_rs rfl<|RQ.y rfl (Y.assign (v:=.int .i64 1) rfl)<|RQ.nil<|then_n<|wp_block ?_
     obtain ⟨K4,hK4,hm⟩ :∃K,K=m_spec_l11ReadAgent_A4∧m_spec_l11ReadAgent_L4 y5 K (y5.length+1) 1 (⟨0,0,0,[],[]⟩:DAgent) (⟨(kindNamed x52),y216.1,0,[],[]⟩:DAgent)=some r:=⟨_,rfl,hm⟩
     refine wp_loopX (fun g f w'=>∃(i238:Int) (z239:DAgent) (z240:DAgent) (uz239_0:Value) (uz239_1:Value) (uz240_0:Value) (uz240_1:Value),f 2=.pointer (some ⟨w.heap.size,0,none⟩)∧f 4=.slice (some ⟨b26,0,none⟩) y5.length c20∧f 5=.pointer (some ⟨w10.heap.size,0,none⟩)∧f 11=.int .i64 i238∧0≤i238∧Blk w' w.heap.size 49 #[.int .i64 z239.kind,.int .i64 z239.level,.int .i64 z239.value,uz239_0,uz239_1]∧OwF 2 encI 1 w' w.heap.size uz239_0 z239.data∧OwF 61 encPort 2 w' w.heap.size uz239_1 z239.ports∧Blk w' w10.heap.size 49 #[.int .i64 z240.kind,.int .i64 z240.level,.int .i64 z240.value,uz240_0,uz240_1]∧OwF 2 encI 1 w' w.heap.size uz240_0 z240.data∧OwF 61 encPort 2 w' w.heap.size uz240_1 z240.ports∧Dj uz239_0 (.slice (some ⟨b26,0,none⟩) y5.length c20)∧Value.ownBlock uz239_0 ≠ some w.heap.size∧Value.ownBlock uz239_0 ≠ some w10.heap.size∧Dj uz239_1 uz239_0∧Dj uz239_1 (.slice (some ⟨b26,0,none⟩) y5.length c20)∧Value.ownBlock uz239_1 ≠ some w.heap.size∧Value.ownBlock uz239_1 ≠ some w10.heap.size∧Dj uz240_0 uz239_0∧Dj uz240_0 uz239_1∧Dj uz240_0 (.slice (some ⟨b26,0,none⟩) y5.length c20)∧Value.ownBlock uz240_0 ≠ some w.heap.size∧Value.ownBlock uz240_0 ≠ some w10.heap.size∧Dj uz240_1 uz239_0∧Dj uz240_1 uz239_1∧Dj uz240_1 uz240_0∧Dj uz240_1 (.slice (some ⟨b26,0,none⟩) y5.length c20)∧Value.ownBlock uz240_1 ≠ some w.heap.size∧Value.ownBlock uz240_1 ≠ some w10.heap.size∧OwF 9 encS 1 w' w.heap.size (.slice (some ⟨b26,0,none⟩) y5.length c20) y5∧Below w.heap.size w w'∧m_spec_l11ReadAgent_L4 y5 K4 g i238 z239 z240=some r) 2 (fun f w'=>∃(z228:DAgent) (z229:DAgent) (uz228_0:Value) (uz228_1:Value) (uz229_0:Value) (uz229_1:Value),f 2=.pointer (some ⟨w.heap.size,0,none⟩)∧f 5=.pointer (some ⟨w10.heap.size,0,none⟩)∧Blk w' w.heap.size 49 #[.int .i64 z228.kind,.int .i64 z228.level,.int .i64 z228.value,uz228_0,uz228_1]∧OwF 2 encI 1 w' w.heap.size uz228_0 z228.data∧OwF 61 encPort 2 w' w.heap.size uz228_1 z228.ports∧Blk w' w10.heap.size 49 #[.int .i64 z229.kind,.int .i64 z229.level,.int .i64 z229.value,uz229_0,uz229_1]∧OwF 2 encI 1 w' w.heap.size uz229_0 z229.data∧OwF 61 encPort 2 w' w.heap.size uz229_1 z229.ports∧Value.ownBlock uz228_0 ≠ some w.heap.size∧Value.ownBlock uz228_0 ≠ some w10.heap.size∧Dj uz228_1 uz228_0∧Value.ownBlock uz228_1 ≠ some w.heap.size∧Value.ownBlock uz228_1 ≠ some w10.heap.size∧Dj uz229_0 uz228_0∧Dj uz229_0 uz228_1∧Value.ownBlock uz229_0 ≠ some w.heap.size∧Value.ownBlock uz229_0 ≠ some w10.heap.size∧Dj uz229_1 uz228_0∧Dj uz229_1 uz228_1∧Dj uz229_1 uz229_0∧Value.ownBlock uz229_1 ≠ some w.heap.size∧Value.ownBlock uz229_1 ≠ some w10.heap.size∧Below w.heap.size w w'∧m_spec_l11ReadAgent_A4 z228 z229=some r) (y5.length+1) ⟨1,(⟨0,0,0,[],[]⟩:DAgent),(⟨(kindNamed x52),y216.1,0,[],[]⟩:DAgent),(.slice none 0 0),(.slice none 0 0),(.slice none 0 0),(.slice none 0 0),s2_1x,s4_1x,s5_1x,rfl,(by omega),B2,OwF.nil,OwF.nil,B225,OwF.nil,OwF.nil,Dj.nil,nilNe (b:=w.heap.size),nilNe (b:=w10.heap.size),Dj.nil,Dj.nil,nilNe (b:=w.heap.size),nilNe (b:=w10.heap.size),Dj.nil,Dj.nil,Dj.nil,nilNe (b:=w.heap.size),nilNe (b:=w10.heap.size),Dj.nil,Dj.nil,Dj.nil,Dj.nil,nilNe (b:=w.heap.size),nilNe (b:=w10.heap.size),G8,T,hm⟩ ?_ ?_
     ·rintro f w230 ⟨z228,z229,uz228_0,uz228_1,uz229_0,uz229_1,s2_4x,s5_4x,Bz228,Guz228_0,Guz228_1,Bz229,Guz229_0,Guz229_1,Noz228_0_ob4,Noz228_0_ob15,Doz228_1_oz228_0,Noz228_1_ob4,Noz228_1_ob15,Doz229_0_oz228_0,Doz229_0_oz228_1,Noz229_0_ob4,Noz229_0_ob15,Doz229_1_oz228_0,Doz229_1_oz228_1,Doz229_1_oz229_0,Noz229_1_ob4,Noz229_1_ob15,T,hm⟩
      unfold m_spec_l11ReadAgent_A4 at hm
      refine blk_hit (then_n ?_)
      refine wp_seq<|wp_rl rfl<|RL.y rfl (Y.loadN (cs:=[.int .i64 z229.kind,.int .i64 z229.level,.int .i64 z229.value,uz229_0,uz229_1]) s5_4x (by kernel_rfl) (cells5 (eqC (blkCell Bz229 (i:=0) rfl)) (eqC (blkCell Bz229 (i:=1) rfl)) (eqC (blkCell Bz229 (i:=2) rfl)) (eqC (blkCell Bz229 (i:=3) rfl)) (eqC (blkCell Bz229 (i:=4) rfl)))) ?_
      obtain ⟨A231,c232,rfl⟩:=OwF.form Guz229_0
      have qbA231:=OwF.bound Guz229_0
      obtain ⟨A233,c234,rfl⟩:=OwF.form Guz229_1
      have qbA233:=OwF.bound Guz229_1
      refine RL.store (v:=.agg #[.int .i64 z229.kind,.int .i64 z229.level,.int .i64 z229.value,.slice A231 z229.data.length c232,.slice A233 z229.ports.length c234]) (cs':=#[.int .i64 z229.kind,.int .i64 z229.level,.int .i64 z229.value,.slice A231 z229.data.length c232,.slice A233 z229.ports.length c234]) rfl s2_4x rfl Bz228 (by kernel_rfl) (by rfl) (by rfl) (by rfl) (fun w235 B236 ho237=>?_)
      have szw235:=ho237.size
      have Bz229:=Bz229.only_ ho237 (by intro hin; simp at hin; exact Eob15_ob4.symm hin)
      have Guz228_0:=OwF.only Guz228_0 ho237 Noz228_0_ob4
      have Guz228_1:=OwF.only Guz228_1 ho237 Noz228_1_ob4
      have Guz229_0:=OwF.only Guz229_0 ho237 Noz229_0_ob4
      have Guz229_1:=OwF.only Guz229_1 ho237 Noz229_1_ob4
      have T:=T.trans (ho237.below (by first|(simp; done)|(simp; omega)))
      refine RL.y rfl (Y.assign (v:=.bool true) rfl)<|RL.nil<|then_n<|wp_ret ?_
      obtain rfl:=sj hm
      exact (retct (cs:=[.int .i64 z229.kind,.int .i64 z229.level,.int .i64 z229.value,.slice A231 z229.data.length c232,.slice A233 z229.ports.length c234]) rfl rfl s2_4x rfl (by kernel_rfl) (blkCells B236) ⟨⟨_,_,rfl,Guz229_0,Guz229_1,(Ap.dj (Ap.symm (Dj.ap Doz229_1_oz229_0)))⟩,T⟩)
     rintro g f w241 ⟨i238,z239,z240,uz239_0,uz239_1,uz240_0,uz240_1,s2_4,s4_4,s5_4,s11_4,nn11_4,Bz239,Guz239_0,Guz239_1,Bz240,Guz240_0,Guz240_1,Doz239_0_o9,Noz239_0_ob4,Noz239_0_ob15,Doz239_1_oz239_0,Doz239_1_o9,Noz239_1_ob4,Noz239_1_ob15,Doz240_0_oz239_0,Doz240_0_oz239_1,Doz240_0_o9,Noz240_0_ob4,Noz240_0_ob15,Doz240_1_oz239_0,Doz240_1_oz239_1,Doz240_1_oz240_0,Doz240_1_o9,Noz240_1_ob4,Noz240_1_ob15,G8,T,hm⟩
     rcases g with _|g
     ·simp only [m_spec_l11ReadAgent_L4] at hm; cases hm
     obtain ⟨rec4,hrec4,hm⟩ :∃z,z=m_spec_l11ReadAgent_L4 y5 K4 g∧m_spec_l11ReadAgent_B4 y5 z K4 i238 z239 z240=some r:=⟨_,rfl,hm⟩
     unfold m_spec_l11ReadAgent_B4 at hm
     refine wp_seq<|wp_seq<|wp_rs rfl<|RQ.y rfl (Y.move (v:=.int .i64 i238) s11_4)<|RQ.y rfl (Y.move (v:=.slice (some ⟨b26,0,none⟩) y5.length c20) s4_4)<|RQ.y rfl (Y.len (by kernel_rfl) rfl)<|RQ.y rfl (Y.binI (v:=.bool (decide (i238 < (y5.length:Int)))) rfl rfl rfl)<|RQ.nil<|then_n ?_
     rcases bcases (decide (i238 < (y5.length:Int))) with c242|c242
     ·replace hm:=cF c242 hm
      have pc242:=of_decide_eq_false c242
      refine cond_f rfl (vb rfl c242)<|wp_exit ?_
      exact (then_x (then_x (hit_x ⟨_,rfl,⟨z239,z240,(uz239_0),(uz239_1),(uz240_0),(uz240_1),s2_4,s5_4,Bz239,Guz239_0,Guz239_1,Bz240,Guz240_0,Guz240_1,(ap_ne (ne_ap Noz239_0_ob4)),(ap_ne (ne_ap Noz239_0_ob15)),(Ap.dj (Dj.ap Doz239_1_oz239_0)),(ap_ne (ne_ap Noz239_1_ob4)),(ap_ne (ne_ap Noz239_1_ob15)),(Ap.dj (Dj.ap Doz240_0_oz239_0)),(Ap.dj (Dj.ap Doz240_0_oz239_1)),(ap_ne (ne_ap Noz240_0_ob4)),(ap_ne (ne_ap Noz240_0_ob15)),(Ap.dj (Dj.ap Doz240_1_oz239_0)),(Ap.dj (Dj.ap Doz240_1_oz239_1)),(Ap.dj (Dj.ap Doz240_1_oz240_0)),(ap_ne (ne_ap Noz240_1_ob4)),(ap_ne (ne_ap Noz240_1_ob15)),T,(by rw [hK4] at hm; exact hm)⟩⟩)))
     replace hm:=cT c242 hm
     have pc242:=of_decide_eq_true c242
     refine cond_t rfl (vb rfl c242)<|wp_skip<|then_n<|wp_seq<|wp_block<|wp_seq<|wp_rl rfl<|RL.y rfl (Y.move (v:=.slice (some ⟨b26,0,none⟩) y5.length c20) s4_4)<|RL.y rfl (Y.move (v:=.int .i64 i238) s11_4) ?_
     obtain ⟨x243,hx245,hm⟩:=bnd hm
     obtain ⟨k244,hk246,hl247,hx245⟩:=getI_some hx245
     refine RL.y rfl (Y.indexAddr (m:=k244) (sz:=1) rfl rfl hk246 hl247 (by kernel_rfl))<|RL.y rfl (Y.load (v:=.string x243) rfl (by kernel_rfl) (eqC (OwF.cell fS G8 hx245 (j:=0) rfl))) ?_
     obtain ⟨y248,e249,hm⟩:=bnd hm
     refine RL.call rfl (am1 rfl) (by kernel_rfl) ((c_m_spec_l11ReadPort x243 _ e249  _ ).mono ?_)
     rintro _ w250 ⟨rfl,hb251⟩
     refine ⟨_,rfl,?_⟩
     have szw250:=hb251.size
     have Bz239:=blkT Bz239 hb251
     have Bz240:=blkT Bz240 hb251
     have G8:=OwF.below G8 hb251
     have Guz239_0:=OwF.below Guz239_0 hb251
     have Guz239_1:=OwF.below Guz239_1 hb251
     have Guz240_0:=OwF.below Guz240_0 hb251
     have Guz240_1:=OwF.below Guz240_1 hb251
     have T:=Tt T hb251
     refine RL.y rfl (Y.move (v:=.tuple #[.agg #[.int .i64 y248.1.agent,.int .i64 y248.1.slot],.bool y248.2]) rfl)<|RL.y rfl (Y.extract (i:=0) rfl rfl)<|RL.y rfl (Y.extract (i:=1) rfl rfl) ?_
     refine RL.alloc (z:=.agg #[.int .i64 0,.int .i64 0]) rfl (by kernel_rfl) (fun w252 B253 hb254 szw252=>?_)
     replace B253:Blk w252 w250.heap.size 61 #[.int .i64 0,.int .i64 0]:=B253
     have GB253:w.heap.size≤w250.heap.size:=T.size
     have Eob255_ob4:=Nat.ne_of_lt Bz239.lt
     have Eob255_ob15:=Nat.ne_of_lt Bz240.lt
     have No9_ob255:=OwF.far G8 (Nat.le_refl _)
     have Noz239_0_ob255:=OwF.far Guz239_0 (Nat.le_refl _)
     have Noz239_1_ob255:=OwF.far Guz239_1 (Nat.le_refl _)
     have Noz240_0_ob255:=OwF.far Guz240_0 (Nat.le_refl _)
     have Noz240_1_ob255:=OwF.far Guz240_1 (Nat.le_refl _)
     have Bz239:=blkT Bz239 hb254
     have Bz240:=blkT Bz240 hb254
     have G8:=OwF.below G8 hb254
     have Guz239_0:=OwF.below Guz239_0 hb254
     have Guz239_1:=OwF.below Guz239_1 hb254
     have Guz240_0:=OwF.below Guz240_0 hb254
     have Guz240_1:=OwF.below Guz240_1 hb254
     have T:=Tt T hb254
     refine RL.store (v:=.agg #[.int .i64 y248.1.agent,.int .i64 y248.1.slot]) (cs':=#[.int .i64 y248.1.agent,.int .i64 y248.1.slot]) rfl rfl rfl B253 (by kernel_rfl) (by rfl) (by rfl) (by rfl) (fun w256 B257 ho258=>?_)
     have szw256:=ho258.size
     have Bz239:=Bz239.only_ ho258 (by intro hin; simp at hin; exact Eob255_ob4 hin)
     have Bz240:=Bz240.only_ ho258 (by intro hin; simp at hin; exact Eob255_ob15 hin)
     have G8:=OwF.only G8 ho258 No9_ob255
     have Guz239_0:=OwF.only Guz239_0 ho258 Noz239_0_ob255
     have Guz239_1:=OwF.only Guz239_1 ho258 Noz239_1_ob255
     have Guz240_0:=OwF.only Guz240_0 ho258 Noz240_0_ob255
     have Guz240_1:=OwF.only Guz240_1 ho258 Noz240_1_ob255
     have T:=T.trans (ho258.below (by first|(simp; done)|(simp; omega)))
     refine RL.y rfl (Y.assign (v:=.bool y248.2) rfl)<|RL.nil<|then_n<|wp_seq<|wp_seq<|wp_rs rfl<|RQ.y rfl (Y.move (v:=.bool y248.2) rfl)<|RQ.y rfl (Y.not (b':=(!y248.2)) rfl rfl)<|RQ.nil<|then_n ?_
     rcases bcases y248.2 with c259|c259
     ·replace hm:=cF c259 hm
      refine cond_t rfl (vbn rfl c259 rfl)<|wp_seq<|wp_rl rfl<|RL.y rfl (Y.loadN (cs:=[.int .i64 z240.kind,.int .i64 z240.level,.int .i64 z240.value,uz240_0,uz240_1]) s5_4 (by kernel_rfl) (cells5 (eqC (blkCell Bz240 (i:=0) rfl)) (eqC (blkCell Bz240 (i:=1) rfl)) (eqC (blkCell Bz240 (i:=2) rfl)) (eqC (blkCell Bz240 (i:=3) rfl)) (eqC (blkCell Bz240 (i:=4) rfl)))) ?_
      obtain ⟨A260,c261,rfl⟩:=OwF.form Guz240_0
      have qbA260:=OwF.bound Guz240_0
      obtain ⟨A262,c263,rfl⟩:=OwF.form Guz240_1
      have qbA262:=OwF.bound Guz240_1
      refine RL.store (v:=.agg #[.int .i64 z240.kind,.int .i64 z240.level,.int .i64 z240.value,.slice A260 z240.data.length c261,.slice A262 z240.ports.length c263]) (cs':=#[.int .i64 z240.kind,.int .i64 z240.level,.int .i64 z240.value,.slice A260 z240.data.length c261,.slice A262 z240.ports.length c263]) rfl s2_4 rfl Bz239 (by kernel_rfl) (by rfl) (by rfl) (by rfl) (fun w264 B265 ho266=>?_)
      have szw264:=ho266.size
      have Bz240:=Bz240.only_ ho266 (by intro hin; simp at hin; exact Eob15_ob4.symm hin)
      have B257:=B257.only_ ho266 (by intro hin; simp at hin; exact Eob255_ob4.symm hin)
      have G8:=OwF.only G8 ho266 Zo9_ob4
      have Guz239_0:=OwF.only Guz239_0 ho266 Noz239_0_ob4
      have Guz239_1:=OwF.only Guz239_1 ho266 Noz239_1_ob4
      have Guz240_0:=OwF.only Guz240_0 ho266 Noz240_0_ob4
      have Guz240_1:=OwF.only Guz240_1 ho266 Noz240_1_ob4
      have T:=T.trans (ho266.below (by first|(simp; done)|(simp; omega)))
      refine RL.y rfl (Y.assign (v:=.bool false) rfl)<|RL.nil<|then_n<|wp_ret ?_
      obtain rfl:=sj hm
      exact (then_r (blk_r (then_r (then_r (hit_r (blk_r (then_r (retct (cs:=[.int .i64 z240.kind,.int .i64 z240.level,.int .i64 z240.value,.slice A260 z240.data.length c261,.slice A262 z240.ports.length c263]) rfl rfl s2_4 rfl (by kernel_rfl) (blkCells B265) ⟨⟨_,_,rfl,Guz240_0,Guz240_1,(Ap.dj (Ap.symm (Dj.ap Doz240_1_oz240_0)))⟩,T⟩))))))))
     replace hm:=cT c259 hm
     refine cond_f rfl (vbn rfl c259 rfl)<|wp_skip<|then_n<|wp_rl rfl<|RL.y rfl (Y.fieldAddr (off:=4) s5_4 (by kernel_rfl))<|RL.y rfl (Y.load (v:=uz240_1) rfl (by kernel_rfl) (eqC (blkCell Bz240 (i:=4) rfl)))<|RL.y rfl (Y.loadN (cs:=[.int .i64 y248.1.agent,.int .i64 y248.1.slot]) rfl (by kernel_rfl) (cells2 (eqC (blkCell B257 (i:=0) rfl)) (eqC (blkCell B257 (i:=1) rfl)))) ?_
     refine RL.bslice (e:=61) (cells:=#[.int .i64 y248.1.agent,.int .i64 y248.1.slot]) rfl (pm1 rfl) (by kernel_rfl) (fun w267 B268 hb269 szw267=>?_)
     have ZB268:w.heap.size≤w256.heap.size:=T.size
     have No270_ob4:=litNe (n:=1) (c:=1) Bz239.lt
     have No270_ob15:=litNe (n:=1) (c:=1) Bz240.lt
     have No270_ob255:=litNe (n:=1) (c:=1) B257.lt
     have Do270_o9:=Dj.new (v:=.slice (some ⟨w256.heap.size,0,none⟩) 1 1) litGe (OwF.hi G8)
     have Do270_oz239_0:=Dj.new (v:=.slice (some ⟨w256.heap.size,0,none⟩) 1 1) litGe (OwF.hi Guz239_0)
     have Do270_oz239_1:=Dj.new (v:=.slice (some ⟨w256.heap.size,0,none⟩) 1 1) litGe (OwF.hi Guz239_1)
     have Do270_oz240_0:=Dj.new (v:=.slice (some ⟨w256.heap.size,0,none⟩) 1 1) litGe (OwF.hi Guz240_0)
     have Do270_oz240_1:=Dj.new (v:=.slice (some ⟨w256.heap.size,0,none⟩) 1 1) litGe (OwF.hi Guz240_1)
     have Bz239:=blkT Bz239 hb269
     have Bz240:=blkT Bz240 hb269
     have B257:=blkT B257 hb269
     have G8:=OwF.below G8 hb269
     have Guz239_0:=OwF.below Guz239_0 hb269
     have Guz239_1:=OwF.below Guz239_1 hb269
     have Guz240_0:=OwF.below Guz240_0 hb269
     have Guz240_1:=OwF.below Guz240_1 hb269
     have T:=Tt T hb269
     have G271:=OwF.lit (enc:=encPort) (sz:=2) (xs:=[y248.1]) B268 ZB268 rfl rfl rfl rfl
     obtain ⟨_,m273,hm⟩:=bnd hm
     have hk274:=mustP_some m273
     refine RL.append fPort app_impl_Port rfl rfl rfl Guz240_1 (OwF.arg fPort G271) T.size hk274 (fun v275 w276 G277 hgr278 hbl279 hnb280=>?_)
     have szw276:=hbl279.size
     have No281_ob4:=ne_app hnb280 Noz240_1_ob4 Bz239.lt
     have No281_ob15:=ne_app hnb280 Noz240_1_ob15 Bz240.lt
     have No281_ob255:=ne_app hnb280 Noz240_1_ob255 B257.lt
     have Do281_o9:=Dj.app Doz240_1_o9 hnb280 (OwF.hi G8)
     have Do281_oz239_0:=Dj.app Doz240_1_oz239_0 hnb280 (OwF.hi Guz239_0)
     have Do281_oz239_1:=Dj.app Doz240_1_oz239_1 hnb280 (OwF.hi Guz239_1)
     have Do281_oz240_0:=Dj.app Doz240_1_oz240_0 hnb280 (OwF.hi Guz240_0)
     have Bz239:=Blk.kept Bz239 hgr278 Noz240_1_ob4
     have Bz240:=Blk.kept Bz240 hgr278 Noz240_1_ob15
     have B257:=Blk.kept B257 hgr278 Noz240_1_ob255
     have G8:=OwF.keptD G8 hgr278 (Dj.symm Doz240_1_o9)
     have Guz239_0:=OwF.keptD Guz239_0 hgr278 (Dj.symm Doz240_1_oz239_0)
     have Guz239_1:=OwF.keptD Guz239_1 hgr278 (Dj.symm Doz240_1_oz239_1)
     have Guz240_0:=OwF.keptD Guz240_0 hgr278 (Dj.symm Doz240_1_oz240_0)
     have T:=T.trans hbl279
     refine RL.y rfl (Y.fieldAddr (off:=4) s5_4 (by kernel_rfl)) ?_
     obtain ⟨A282,c283,rfl⟩:=OwF.form G277
     have qbA282:=OwF.bound G277
     refine RL.store (v:=.slice A282 ((z240.ports ++ [y248.1]).length) c283) (cs':=#[.int .i64 z240.kind,.int .i64 z240.level,.int .i64 z240.value,uz240_0,.slice A282 ((z240.ports ++ [y248.1]).length) c283]) rfl rfl rfl Bz240 (by kernel_rfl) (by rfl) (by rfl) (by rfl) (fun w284 B285 ho286=>?_)
     have szw284:=ho286.size
     have Bz239:=Bz239.only_ ho286 (by intro hin; simp at hin; exact Eob15_ob4 hin)
     have B257:=B257.only_ ho286 (by intro hin; simp at hin; exact Eob255_ob15.symm hin)
     have G8:=OwF.only G8 ho286 No9_ob15
     have Guz239_0:=OwF.only Guz239_0 ho286 Noz239_0_ob15
     have Guz239_1:=OwF.only Guz239_1 ho286 Noz239_1_ob15
     have Guz240_0:=OwF.only Guz240_0 ho286 Noz240_0_ob15
     have G277:=OwF.only G277 ho286 No281_ob15
     have T:=T.trans (ho286.below (by first|(simp; done)|(simp; omega)))
     refine RL.nil ?_
     refine blk_n (then_n ?_)
     refine wp_rs rfl<|RQ.y rfl (Y.move (v:=.int .i64 i238) s11_4)<|RQ.y rfl (Y.binI rfl rfl (binI_add (m:=i238) (by omega)))<|RQ.y rfl (Y.assign (v:=.int .i64 (i238+1)) rfl)<|RQ.nil ?_
     exact (then_n ⟨g,_,Nat.lt_succ_self _,rfl,⟨(i238+1),z239,(⟨z240.kind,z240.level,z240.value,z240.data,(z240.ports ++ [y248.1])⟩:DAgent),(uz239_0),(uz239_1),(uz240_0),(.slice A282 ((z240.ports ++ [y248.1]).length) c283),s2_4,s4_4,s5_4,rfl,(by omega),Bz239,Guz239_0,Guz239_1,B285,Guz240_0,G277,(Ap.dj (Dj.ap Doz239_0_o9)),(ap_ne (ne_ap Noz239_0_ob4)),(ap_ne (ne_ap Noz239_0_ob15)),(Ap.dj (Dj.ap Doz239_1_oz239_0)),(Ap.dj (Dj.ap Doz239_1_o9)),(ap_ne (ne_ap Noz239_1_ob4)),(ap_ne (ne_ap Noz239_1_ob15)),(Ap.dj (Dj.ap Doz240_0_oz239_0)),(Ap.dj (Dj.ap Doz240_0_oz239_1)),(Ap.dj (Dj.ap Doz240_0_o9)),(ap_ne (ne_ap Noz240_0_ob4)),(ap_ne (ne_ap Noz240_0_ob15)),(Ap.dj (Dj.ap Do281_oz239_0)),(Ap.dj (Dj.ap Do281_oz239_1)),(Ap.dj (Dj.ap Do281_oz240_0)),(Ap.dj (Dj.ap Do281_o9)),(ap_ne (ne_ap No281_ob4)),(ap_ne (ne_ap No281_ob15)),G8,T,(by rw [← hrec4]; exact hm)⟩⟩)
    replace hm:=cT c227 hm
    refine RL.y (wantT (dj:=83) rfl (vb rfl c227)) (Y.move (v:=.slice (some ⟨b42,0,none⟩) xs33.length c36) s6_1x) ?_
    obtain ⟨x288,hx290,hm⟩:=bnd hm
    obtain ⟨k289,hk291,hl292,hx290⟩:=getI_some hx290
    refine RL.y (wantT (dj:=83) rfl (vb rfl c227)) (Y.indexAddr (m:=k289) (sz:=1) rfl rfl hk291 hl292 (by kernel_rfl))<|RL.y (wantT (dj:=83) rfl (vb rfl c227)) (Y.load (v:=.string x288) rfl (by kernel_rfl) (eqC (OwF.cell fS Guxs33 hx290 (j:=0) rfl))) ?_
    obtain ⟨y293,e294,hm⟩:=bnd hm
    refine RL.call (wantT (dj:=83) rfl (vb rfl c227)) (am2 s5_1x rfl) (by kernel_rfl) ((c_m_spec_l11ReadContent (⟨(kindNamed x52),y216.1,0,[],[]⟩:DAgent) x288 _ e294  w w224 T  _ B225 GB13).mono ?_)
    rintro _ w301 ⟨⟨v295,v298,rfl,G296,G299,Ro297_o300,B304⟩,K302,hb303⟩
    refine ⟨_,rfl,?_⟩
    have szw301:=K302.size
    have T0w301:=T.size
    have Zo297_ob4:=ap_ne (Ap.new (OwF.flo G296) (one_hi B2.lt))
    have Zo297_ob15:=ap_ne (Ap.new (OwF.flo G296) (one_hi B225.lt))
    have Zo297_o9:=Ap.dj (Ap.new (OwF.flo G296) (OwF.fhi G8))
    have Zo297_oxs33:=Ap.dj (Ap.new (OwF.flo G296) (OwF.fhi Guxs33))
    have Zo300_ob4:=ap_ne (Ap.new (OwF.flo G299) (one_hi B2.lt))
    have Zo300_ob15:=ap_ne (Ap.new (OwF.flo G299) (one_hi B225.lt))
    have Zo300_o9:=Ap.dj (Ap.new (OwF.flo G299) (OwF.fhi G8))
    have Zo300_oxs33:=Ap.dj (Ap.new (OwF.flo G299) (OwF.fhi Guxs33))
    have B2:=Blk.keepV B2 K302 (cellNe Eob15_ob4) (cellNe Eob15_ob4)
    have G8:=OwF.keepV G8 K302 (cellDj No9_ob15) (cellDj No9_ob15)
    have Guxs33:=OwF.keepV Guxs33 K302 (cellDj Noxs33_ob15) (cellDj Noxs33_ob15)
    have T:=hb303
    replace G296:=OwF.mono G296 T0w301
    replace G299:=OwF.mono G299 T0w301
    refine RL.y (wantT (dj:=83) rfl (vb rfl c227)) (Y.not (b':=(!y293.1)) rfl rfl)<|RL.y rfl (Y.pick (b:=true) (v:=.bool (!y293.1)) (vb rfl c227) rfl)<|RL.nil<|then_n ?_
    rcases bcases y293.1 with c305|c305
    ·replace hm:=cF c305 hm
     refine cond_t rfl (vbn rfl c305 rfl)<|wp_seq<|wp_rl rfl<|RL.y rfl (Y.loadN (cs:=[.int .i64 y293.2.kind,.int .i64 y293.2.level,.int .i64 y293.2.value,v295,v298]) s5_1x (by kernel_rfl) (cells5 (eqC (blkCell B304 (i:=0) rfl)) (eqC (blkCell B304 (i:=1) rfl)) (eqC (blkCell B304 (i:=2) rfl)) (eqC (blkCell B304 (i:=3) rfl)) (eqC (blkCell B304 (i:=4) rfl)))) ?_
     obtain ⟨A306,c307,rfl⟩:=OwF.form G296
     have qbA306:=OwF.bound G296
     obtain ⟨A308,c309,rfl⟩:=OwF.form G299
     have qbA308:=OwF.bound G299
     refine RL.store (v:=.agg #[.int .i64 y293.2.kind,.int .i64 y293.2.level,.int .i64 y293.2.value,.slice A306 y293.2.data.length c307,.slice A308 y293.2.ports.length c309]) (cs':=#[.int .i64 y293.2.kind,.int .i64 y293.2.level,.int .i64 y293.2.value,.slice A306 y293.2.data.length c307,.slice A308 y293.2.ports.length c309]) rfl s2_1x rfl B2 (by kernel_rfl) (by rfl) (by rfl) (by rfl) (fun w310 B311 ho312=>?_)
     have szw310:=ho312.size
     have B304:=B304.only_ ho312 (by intro hin; simp at hin; exact Eob15_ob4.symm hin)
     have G8:=OwF.only G8 ho312 Zo9_ob4
     have G296:=OwF.only G296 ho312 Zo297_ob4
     have G299:=OwF.only G299 ho312 Zo300_ob4
     have T:=T.trans (ho312.below (by first|(simp; done)|(simp; omega)))
     refine RL.y rfl (Y.assign (v:=.bool false) rfl)<|RL.nil<|then_n<|wp_ret ?_
     obtain rfl:=sj hm
     exact (then_r (retct (cs:=[.int .i64 y293.2.kind,.int .i64 y293.2.level,.int .i64 y293.2.value,.slice A306 y293.2.data.length c307,.slice A308 y293.2.ports.length c309]) rfl rfl s2_1x rfl (by kernel_rfl) (blkCells B311) ⟨⟨_,_,rfl,G296,G299,(Ap.dj (Dj.ap Ro297_o300))⟩,T⟩))
    replace hm:=cT c305 hm
    refine cond_f rfl (vbn rfl c305 rfl)<|wp_skip<|then_n<|wp_seq<|wp_seq<|wp_rs rfl<|RQ.y rfl (Y.assign (v:=.int .i64 1) rfl)<|RQ.nil<|then_n<|wp_block ?_
    obtain ⟨K5,hK5,hm⟩ :∃K,K=m_spec_l11ReadAgent_A5∧m_spec_l11ReadAgent_L5 y5 K (y5.length+1) 1 (⟨0,0,0,[],[]⟩:DAgent) (⟨y293.2.kind,y293.2.level,y293.2.value,y293.2.data,y293.2.ports⟩:DAgent)=some r:=⟨_,rfl,hm⟩
    refine wp_loopX (fun g f w'=>∃(i323:Int) (z324:DAgent) (z325:DAgent) (uz324_0:Value) (uz324_1:Value) (uz325_0:Value) (uz325_1:Value),f 2=.pointer (some ⟨w.heap.size,0,none⟩)∧f 4=.slice (some ⟨b26,0,none⟩) y5.length c20∧f 5=.pointer (some ⟨w10.heap.size,0,none⟩)∧f 11=.int .i64 i323∧0≤i323∧Blk w' w.heap.size 49 #[.int .i64 z324.kind,.int .i64 z324.level,.int .i64 z324.value,uz324_0,uz324_1]∧OwF 2 encI 1 w' w.heap.size uz324_0 z324.data∧OwF 61 encPort 2 w' w.heap.size uz324_1 z324.ports∧Blk w' w10.heap.size 49 #[.int .i64 z325.kind,.int .i64 z325.level,.int .i64 z325.value,uz325_0,uz325_1]∧OwF 2 encI 1 w' w.heap.size uz325_0 z325.data∧OwF 61 encPort 2 w' w.heap.size uz325_1 z325.ports∧Dj uz324_0 (.slice (some ⟨b26,0,none⟩) y5.length c20)∧Value.ownBlock uz324_0 ≠ some w.heap.size∧Value.ownBlock uz324_0 ≠ some w10.heap.size∧Dj uz324_1 uz324_0∧Dj uz324_1 (.slice (some ⟨b26,0,none⟩) y5.length c20)∧Value.ownBlock uz324_1 ≠ some w.heap.size∧Value.ownBlock uz324_1 ≠ some w10.heap.size∧Dj uz325_0 uz324_0∧Dj uz325_0 uz324_1∧Dj uz325_0 (.slice (some ⟨b26,0,none⟩) y5.length c20)∧Value.ownBlock uz325_0 ≠ some w.heap.size∧Value.ownBlock uz325_0 ≠ some w10.heap.size∧Dj uz325_1 uz324_0∧Dj uz325_1 uz324_1∧Dj uz325_1 uz325_0∧Dj uz325_1 (.slice (some ⟨b26,0,none⟩) y5.length c20)∧Value.ownBlock uz325_1 ≠ some w.heap.size∧Value.ownBlock uz325_1 ≠ some w10.heap.size∧OwF 9 encS 1 w' w.heap.size (.slice (some ⟨b26,0,none⟩) y5.length c20) y5∧Below w.heap.size w w'∧m_spec_l11ReadAgent_L5 y5 K5 g i323 z324 z325=some r) 2 (fun f w'=>∃(z313:DAgent) (z314:DAgent) (uz313_0:Value) (uz313_1:Value) (uz314_0:Value) (uz314_1:Value),f 2=.pointer (some ⟨w.heap.size,0,none⟩)∧f 5=.pointer (some ⟨w10.heap.size,0,none⟩)∧Blk w' w.heap.size 49 #[.int .i64 z313.kind,.int .i64 z313.level,.int .i64 z313.value,uz313_0,uz313_1]∧OwF 2 encI 1 w' w.heap.size uz313_0 z313.data∧OwF 61 encPort 2 w' w.heap.size uz313_1 z313.ports∧Blk w' w10.heap.size 49 #[.int .i64 z314.kind,.int .i64 z314.level,.int .i64 z314.value,uz314_0,uz314_1]∧OwF 2 encI 1 w' w.heap.size uz314_0 z314.data∧OwF 61 encPort 2 w' w.heap.size uz314_1 z314.ports∧Value.ownBlock uz313_0 ≠ some w.heap.size∧Value.ownBlock uz313_0 ≠ some w10.heap.size∧Dj uz313_1 uz313_0∧Value.ownBlock uz313_1 ≠ some w.heap.size∧Value.ownBlock uz313_1 ≠ some w10.heap.size∧Dj uz314_0 uz313_0∧Dj uz314_0 uz313_1∧Value.ownBlock uz314_0 ≠ some w.heap.size∧Value.ownBlock uz314_0 ≠ some w10.heap.size∧Dj uz314_1 uz313_0∧Dj uz314_1 uz313_1∧Dj uz314_1 uz314_0∧Value.ownBlock uz314_1 ≠ some w.heap.size∧Value.ownBlock uz314_1 ≠ some w10.heap.size∧Below w.heap.size w w'∧m_spec_l11ReadAgent_A5 z313 z314=some r) (y5.length+1) ⟨1,(⟨0,0,0,[],[]⟩:DAgent),(⟨y293.2.kind,y293.2.level,y293.2.value,y293.2.data,y293.2.ports⟩:DAgent),(.slice none 0 0),(.slice none 0 0),(v295),(v298),s2_1x,s4_1x,s5_1x,rfl,(by omega),B2,OwF.nil,OwF.nil,B304,G296,G299,Dj.nil,nilNe (b:=w.heap.size),nilNe (b:=w10.heap.size),Dj.nil,Dj.nil,nilNe (b:=w.heap.size),nilNe (b:=w10.heap.size),(Dj.symm Dj.nil),(Dj.symm Dj.nil),(Ap.dj (Dj.ap Zo297_o9)),(ap_ne (ne_ap Zo297_ob4)),(ap_ne (ne_ap Zo297_ob15)),(Dj.symm Dj.nil),(Dj.symm Dj.nil),(Ap.dj (Ap.symm (Dj.ap Ro297_o300))),(Ap.dj (Dj.ap Zo300_o9)),(ap_ne (ne_ap Zo300_ob4)),(ap_ne (ne_ap Zo300_ob15)),G8,T,hm⟩ ?_ ?_
    ·rintro f w315 ⟨z313,z314,uz313_0,uz313_1,uz314_0,uz314_1,s2_5x,s5_5x,Bz313,Guz313_0,Guz313_1,Bz314,Guz314_0,Guz314_1,Noz313_0_ob4,Noz313_0_ob15,Doz313_1_oz313_0,Noz313_1_ob4,Noz313_1_ob15,Doz314_0_oz313_0,Doz314_0_oz313_1,Noz314_0_ob4,Noz314_0_ob15,Doz314_1_oz313_0,Doz314_1_oz313_1,Doz314_1_oz314_0,Noz314_1_ob4,Noz314_1_ob15,T,hm⟩
     unfold m_spec_l11ReadAgent_A5 at hm
     refine blk_hit (then_n ?_)
     refine wp_seq<|wp_rl rfl<|RL.y rfl (Y.loadN (cs:=[.int .i64 z314.kind,.int .i64 z314.level,.int .i64 z314.value,uz314_0,uz314_1]) s5_5x (by kernel_rfl) (cells5 (eqC (blkCell Bz314 (i:=0) rfl)) (eqC (blkCell Bz314 (i:=1) rfl)) (eqC (blkCell Bz314 (i:=2) rfl)) (eqC (blkCell Bz314 (i:=3) rfl)) (eqC (blkCell Bz314 (i:=4) rfl)))) ?_
     obtain ⟨A316,c317,rfl⟩:=OwF.form Guz314_0
     have qbA316:=OwF.bound Guz314_0
     obtain ⟨A318,c319,rfl⟩:=OwF.form Guz314_1
     have qbA318:=OwF.bound Guz314_1
     refine RL.store (v:=.agg #[.int .i64 z314.kind,.int .i64 z314.level,.int .i64 z314.value,.slice A316 z314.data.length c317,.slice A318 z314.ports.length c319]) (cs':=#[.int .i64 z314.kind,.int .i64 z314.level,.int .i64 z314.value,.slice A316 z314.data.length c317,.slice A318 z314.ports.length c319]) rfl s2_5x rfl Bz313 (by kernel_rfl) (by rfl) (by rfl) (by rfl) (fun w320 B321 ho322=>?_)
     have szw320:=ho322.size
     have Bz314:=Bz314.only_ ho322 (by intro hin; simp at hin; exact Eob15_ob4.symm hin)
     have Guz313_0:=OwF.only Guz313_0 ho322 Noz313_0_ob4
     have Guz313_1:=OwF.only Guz313_1 ho322 Noz313_1_ob4
     have Guz314_0:=OwF.only Guz314_0 ho322 Noz314_0_ob4
     have Guz314_1:=OwF.only Guz314_1 ho322 Noz314_1_ob4
     have T:=T.trans (ho322.below (by first|(simp; done)|(simp; omega)))
     refine RL.y rfl (Y.assign (v:=.bool true) rfl)<|RL.nil<|then_n<|wp_ret ?_
     obtain rfl:=sj hm
     exact (retct (cs:=[.int .i64 z314.kind,.int .i64 z314.level,.int .i64 z314.value,.slice A316 z314.data.length c317,.slice A318 z314.ports.length c319]) rfl rfl s2_5x rfl (by kernel_rfl) (blkCells B321) ⟨⟨_,_,rfl,Guz314_0,Guz314_1,(Ap.dj (Ap.symm (Dj.ap Doz314_1_oz314_0)))⟩,T⟩)
    rintro g f w326 ⟨i323,z324,z325,uz324_0,uz324_1,uz325_0,uz325_1,s2_5,s4_5,s5_5,s11_5,nn11_5,Bz324,Guz324_0,Guz324_1,Bz325,Guz325_0,Guz325_1,Doz324_0_o9,Noz324_0_ob4,Noz324_0_ob15,Doz324_1_oz324_0,Doz324_1_o9,Noz324_1_ob4,Noz324_1_ob15,Doz325_0_oz324_0,Doz325_0_oz324_1,Doz325_0_o9,Noz325_0_ob4,Noz325_0_ob15,Doz325_1_oz324_0,Doz325_1_oz324_1,Doz325_1_oz325_0,Doz325_1_o9,Noz325_1_ob4,Noz325_1_ob15,G8,T,hm⟩
    rcases g with _|g
    ·simp only [m_spec_l11ReadAgent_L5] at hm; cases hm
    obtain ⟨rec5,hrec5,hm⟩ :∃z,z=m_spec_l11ReadAgent_L5 y5 K5 g∧m_spec_l11ReadAgent_B5 y5 z K5 i323 z324 z325=some r:=⟨_,rfl,hm⟩
    unfold m_spec_l11ReadAgent_B5 at hm
    refine wp_seq<|wp_seq<|wp_rs rfl<|RQ.y rfl (Y.move (v:=.int .i64 i323) s11_5)<|RQ.y rfl (Y.move (v:=.slice (some ⟨b26,0,none⟩) y5.length c20) s4_5)<|RQ.y rfl (Y.len (by kernel_rfl) rfl)<|RQ.y rfl (Y.binI (v:=.bool (decide (i323 < (y5.length:Int)))) rfl rfl rfl)<|RQ.nil<|then_n ?_
    rcases bcases (decide (i323 < (y5.length:Int))) with c327|c327
    ·replace hm:=cF c327 hm
     have pc327:=of_decide_eq_false c327
     refine cond_f rfl (vb rfl c327)<|wp_exit ?_
     exact (then_x (then_x (hit_x ⟨_,rfl,⟨z324,z325,(uz324_0),(uz324_1),(uz325_0),(uz325_1),s2_5,s5_5,Bz324,Guz324_0,Guz324_1,Bz325,Guz325_0,Guz325_1,(ap_ne (ne_ap Noz324_0_ob4)),(ap_ne (ne_ap Noz324_0_ob15)),(Ap.dj (Dj.ap Doz324_1_oz324_0)),(ap_ne (ne_ap Noz324_1_ob4)),(ap_ne (ne_ap Noz324_1_ob15)),(Ap.dj (Dj.ap Doz325_0_oz324_0)),(Ap.dj (Dj.ap Doz325_0_oz324_1)),(ap_ne (ne_ap Noz325_0_ob4)),(ap_ne (ne_ap Noz325_0_ob15)),(Ap.dj (Dj.ap Doz325_1_oz324_0)),(Ap.dj (Dj.ap Doz325_1_oz324_1)),(Ap.dj (Dj.ap Doz325_1_oz325_0)),(ap_ne (ne_ap Noz325_1_ob4)),(ap_ne (ne_ap Noz325_1_ob15)),T,(by rw [hK5] at hm; exact hm)⟩⟩)))
    replace hm:=cT c327 hm
    have pc327:=of_decide_eq_true c327
    refine cond_t rfl (vb rfl c327)<|wp_skip<|then_n<|wp_seq<|wp_block<|wp_seq<|wp_rl rfl<|RL.y rfl (Y.move (v:=.slice (some ⟨b26,0,none⟩) y5.length c20) s4_5)<|RL.y rfl (Y.move (v:=.int .i64 i323) s11_5) ?_
    obtain ⟨x328,hx330,hm⟩:=bnd hm
    obtain ⟨k329,hk331,hl332,hx330⟩:=getI_some hx330
    refine RL.y rfl (Y.indexAddr (m:=k329) (sz:=1) rfl rfl hk331 hl332 (by kernel_rfl))<|RL.y rfl (Y.load (v:=.string x328) rfl (by kernel_rfl) (eqC (OwF.cell fS G8 hx330 (j:=0) rfl))) ?_
    obtain ⟨y333,e334,hm⟩:=bnd hm
    refine RL.call rfl (am1 rfl) (by kernel_rfl) ((c_m_spec_l11ReadPort x328 _ e334  _ ).mono ?_)
    rintro _ w335 ⟨rfl,hb336⟩
    refine ⟨_,rfl,?_⟩
    have szw335:=hb336.size
    have Bz324:=blkT Bz324 hb336
    have Bz325:=blkT Bz325 hb336
    have G8:=OwF.below G8 hb336
    have Guz324_0:=OwF.below Guz324_0 hb336
    have Guz324_1:=OwF.below Guz324_1 hb336
    have Guz325_0:=OwF.below Guz325_0 hb336
    have Guz325_1:=OwF.below Guz325_1 hb336
    have T:=Tt T hb336
    refine RL.y rfl (Y.move (v:=.tuple #[.agg #[.int .i64 y333.1.agent,.int .i64 y333.1.slot],.bool y333.2]) rfl)<|RL.y rfl (Y.extract (i:=0) rfl rfl)<|RL.y rfl (Y.extract (i:=1) rfl rfl) ?_
    refine RL.alloc (z:=.agg #[.int .i64 0,.int .i64 0]) rfl (by kernel_rfl) (fun w337 B338 hb339 szw337=>?_)
    replace B338:Blk w337 w335.heap.size 61 #[.int .i64 0,.int .i64 0]:=B338
    have GB338:w.heap.size≤w335.heap.size:=T.size
    have Eob340_ob4:=Nat.ne_of_lt Bz324.lt
    have Eob340_ob15:=Nat.ne_of_lt Bz325.lt
    have No9_ob340:=OwF.far G8 (Nat.le_refl _)
    have Noz324_0_ob340:=OwF.far Guz324_0 (Nat.le_refl _)
    have Noz324_1_ob340:=OwF.far Guz324_1 (Nat.le_refl _)
    have Noz325_0_ob340:=OwF.far Guz325_0 (Nat.le_refl _)
    have Noz325_1_ob340:=OwF.far Guz325_1 (Nat.le_refl _)
    have Bz324:=blkT Bz324 hb339
    have Bz325:=blkT Bz325 hb339
    have G8:=OwF.below G8 hb339
    have Guz324_0:=OwF.below Guz324_0 hb339
    have Guz324_1:=OwF.below Guz324_1 hb339
    have Guz325_0:=OwF.below Guz325_0 hb339
    have Guz325_1:=OwF.below Guz325_1 hb339
    have T:=Tt T hb339
    refine RL.store (v:=.agg #[.int .i64 y333.1.agent,.int .i64 y333.1.slot]) (cs':=#[.int .i64 y333.1.agent,.int .i64 y333.1.slot]) rfl rfl rfl B338 (by kernel_rfl) (by rfl) (by rfl) (by rfl) (fun w341 B342 ho343=>?_)
    have szw341:=ho343.size
    have Bz324:=Bz324.only_ ho343 (by intro hin; simp at hin; exact Eob340_ob4 hin)
    have Bz325:=Bz325.only_ ho343 (by intro hin; simp at hin; exact Eob340_ob15 hin)
    have G8:=OwF.only G8 ho343 No9_ob340
    have Guz324_0:=OwF.only Guz324_0 ho343 Noz324_0_ob340
    have Guz324_1:=OwF.only Guz324_1 ho343 Noz324_1_ob340
    have Guz325_0:=OwF.only Guz325_0 ho343 Noz325_0_ob340
    have Guz325_1:=OwF.only Guz325_1 ho343 Noz325_1_ob340
    have T:=T.trans (ho343.below (by first|(simp; done)|(simp; omega)))
    refine RL.y rfl (Y.assign (v:=.bool y333.2) rfl)<|RL.nil<|then_n<|wp_seq<|wp_seq<|wp_rs rfl<|RQ.y rfl (Y.move (v:=.bool y333.2) rfl)<|RQ.y rfl (Y.not (b':=(!y333.2)) rfl rfl)<|RQ.nil<|then_n ?_
    rcases bcases y333.2 with c344|c344
    ·replace hm:=cF c344 hm
     refine cond_t rfl (vbn rfl c344 rfl)<|wp_seq<|wp_rl rfl<|RL.y rfl (Y.loadN (cs:=[.int .i64 z325.kind,.int .i64 z325.level,.int .i64 z325.value,uz325_0,uz325_1]) s5_5 (by kernel_rfl) (cells5 (eqC (blkCell Bz325 (i:=0) rfl)) (eqC (blkCell Bz325 (i:=1) rfl)) (eqC (blkCell Bz325 (i:=2) rfl)) (eqC (blkCell Bz325 (i:=3) rfl)) (eqC (blkCell Bz325 (i:=4) rfl)))) ?_
     obtain ⟨A345,c346,rfl⟩:=OwF.form Guz325_0
     have qbA345:=OwF.bound Guz325_0
     obtain ⟨A347,c348,rfl⟩:=OwF.form Guz325_1
     have qbA347:=OwF.bound Guz325_1
     refine RL.store (v:=.agg #[.int .i64 z325.kind,.int .i64 z325.level,.int .i64 z325.value,.slice A345 z325.data.length c346,.slice A347 z325.ports.length c348]) (cs':=#[.int .i64 z325.kind,.int .i64 z325.level,.int .i64 z325.value,.slice A345 z325.data.length c346,.slice A347 z325.ports.length c348]) rfl s2_5 rfl Bz324 (by kernel_rfl) (by rfl) (by rfl) (by rfl) (fun w349 B350 ho351=>?_)
     have szw349:=ho351.size
     have Bz325:=Bz325.only_ ho351 (by intro hin; simp at hin; exact Eob15_ob4.symm hin)
     have B342:=B342.only_ ho351 (by intro hin; simp at hin; exact Eob340_ob4.symm hin)
     have G8:=OwF.only G8 ho351 Zo9_ob4
     have Guz324_0:=OwF.only Guz324_0 ho351 Noz324_0_ob4
     have Guz324_1:=OwF.only Guz324_1 ho351 Noz324_1_ob4
     have Guz325_0:=OwF.only Guz325_0 ho351 Noz325_0_ob4
     have Guz325_1:=OwF.only Guz325_1 ho351 Noz325_1_ob4
     have T:=T.trans (ho351.below (by first|(simp; done)|(simp; omega)))
     refine RL.y rfl (Y.assign (v:=.bool false) rfl)<|RL.nil<|then_n<|wp_ret ?_
     obtain rfl:=sj hm
     exact (then_r (blk_r (then_r (then_r (hit_r (blk_r (then_r (retct (cs:=[.int .i64 z325.kind,.int .i64 z325.level,.int .i64 z325.value,.slice A345 z325.data.length c346,.slice A347 z325.ports.length c348]) rfl rfl s2_5 rfl (by kernel_rfl) (blkCells B350) ⟨⟨_,_,rfl,Guz325_0,Guz325_1,(Ap.dj (Ap.symm (Dj.ap Doz325_1_oz325_0)))⟩,T⟩))))))))
    replace hm:=cT c344 hm
    refine cond_f rfl (vbn rfl c344 rfl)<|wp_skip<|then_n<|wp_rl rfl<|RL.y rfl (Y.fieldAddr (off:=4) s5_5 (by kernel_rfl))<|RL.y rfl (Y.load (v:=uz325_1) rfl (by kernel_rfl) (eqC (blkCell Bz325 (i:=4) rfl)))<|RL.y rfl (Y.loadN (cs:=[.int .i64 y333.1.agent,.int .i64 y333.1.slot]) rfl (by kernel_rfl) (cells2 (eqC (blkCell B342 (i:=0) rfl)) (eqC (blkCell B342 (i:=1) rfl)))) ?_
    refine RL.bslice (e:=61) (cells:=#[.int .i64 y333.1.agent,.int .i64 y333.1.slot]) rfl (pm1 rfl) (by kernel_rfl) (fun w352 B353 hb354 szw352=>?_)
    have ZB353:w.heap.size≤w341.heap.size:=T.size
    have No355_ob4:=litNe (n:=1) (c:=1) Bz324.lt
    have No355_ob15:=litNe (n:=1) (c:=1) Bz325.lt
    have No355_ob340:=litNe (n:=1) (c:=1) B342.lt
    have Do355_o9:=Dj.new (v:=.slice (some ⟨w341.heap.size,0,none⟩) 1 1) litGe (OwF.hi G8)
    have Do355_oz324_0:=Dj.new (v:=.slice (some ⟨w341.heap.size,0,none⟩) 1 1) litGe (OwF.hi Guz324_0)
    have Do355_oz324_1:=Dj.new (v:=.slice (some ⟨w341.heap.size,0,none⟩) 1 1) litGe (OwF.hi Guz324_1)
    have Do355_oz325_0:=Dj.new (v:=.slice (some ⟨w341.heap.size,0,none⟩) 1 1) litGe (OwF.hi Guz325_0)
    have Do355_oz325_1:=Dj.new (v:=.slice (some ⟨w341.heap.size,0,none⟩) 1 1) litGe (OwF.hi Guz325_1)
    have Bz324:=blkT Bz324 hb354
    have Bz325:=blkT Bz325 hb354
    have B342:=blkT B342 hb354
    have G8:=OwF.below G8 hb354
    have Guz324_0:=OwF.below Guz324_0 hb354
    have Guz324_1:=OwF.below Guz324_1 hb354
    have Guz325_0:=OwF.below Guz325_0 hb354
    have Guz325_1:=OwF.below Guz325_1 hb354
    have T:=Tt T hb354
    have G356:=OwF.lit (enc:=encPort) (sz:=2) (xs:=[y333.1]) B353 ZB353 rfl rfl rfl rfl
    obtain ⟨_,m358,hm⟩:=bnd hm
    have hk359:=mustP_some m358
    refine RL.append fPort app_impl_Port rfl rfl rfl Guz325_1 (OwF.arg fPort G356) T.size hk359 (fun v360 w361 G362 hgr363 hbl364 hnb365=>?_)
    have szw361:=hbl364.size
    have No366_ob4:=ne_app hnb365 Noz325_1_ob4 Bz324.lt
    have No366_ob15:=ne_app hnb365 Noz325_1_ob15 Bz325.lt
    have No366_ob340:=ne_app hnb365 Noz325_1_ob340 B342.lt
    have Do366_o9:=Dj.app Doz325_1_o9 hnb365 (OwF.hi G8)
    have Do366_oz324_0:=Dj.app Doz325_1_oz324_0 hnb365 (OwF.hi Guz324_0)
    have Do366_oz324_1:=Dj.app Doz325_1_oz324_1 hnb365 (OwF.hi Guz324_1)
    have Do366_oz325_0:=Dj.app Doz325_1_oz325_0 hnb365 (OwF.hi Guz325_0)
    have Bz324:=Blk.kept Bz324 hgr363 Noz325_1_ob4
    have Bz325:=Blk.kept Bz325 hgr363 Noz325_1_ob15
    have B342:=Blk.kept B342 hgr363 Noz325_1_ob340
    have G8:=OwF.keptD G8 hgr363 (Dj.symm Doz325_1_o9)
    have Guz324_0:=OwF.keptD Guz324_0 hgr363 (Dj.symm Doz325_1_oz324_0)
    have Guz324_1:=OwF.keptD Guz324_1 hgr363 (Dj.symm Doz325_1_oz324_1)
    have Guz325_0:=OwF.keptD Guz325_0 hgr363 (Dj.symm Doz325_1_oz325_0)
    have T:=T.trans hbl364
    refine RL.y rfl (Y.fieldAddr (off:=4) s5_5 (by kernel_rfl)) ?_
    obtain ⟨A367,c368,rfl⟩:=OwF.form G362
    have qbA367:=OwF.bound G362
    refine RL.store (v:=.slice A367 ((z325.ports ++ [y333.1]).length) c368) (cs':=#[.int .i64 z325.kind,.int .i64 z325.level,.int .i64 z325.value,uz325_0,.slice A367 ((z325.ports ++ [y333.1]).length) c368]) rfl rfl rfl Bz325 (by kernel_rfl) (by rfl) (by rfl) (by rfl) (fun w369 B370 ho371=>?_)
    have szw369:=ho371.size
    have Bz324:=Bz324.only_ ho371 (by intro hin; simp at hin; exact Eob15_ob4 hin)
    have B342:=B342.only_ ho371 (by intro hin; simp at hin; exact Eob340_ob15.symm hin)
    have G8:=OwF.only G8 ho371 No9_ob15
    have Guz324_0:=OwF.only Guz324_0 ho371 Noz324_0_ob15
    have Guz324_1:=OwF.only Guz324_1 ho371 Noz324_1_ob15
    have Guz325_0:=OwF.only Guz325_0 ho371 Noz325_0_ob15
    have G362:=OwF.only G362 ho371 No366_ob15
    have T:=T.trans (ho371.below (by first|(simp; done)|(simp; omega)))
    refine RL.nil ?_
    refine blk_n (then_n ?_)
    refine wp_rs rfl<|RQ.y rfl (Y.move (v:=.int .i64 i323) s11_5)<|RQ.y rfl (Y.binI rfl rfl (binI_add (m:=i323) (by omega)))<|RQ.y rfl (Y.assign (v:=.int .i64 (i323+1)) rfl)<|RQ.nil ?_
    exact (then_n ⟨g,_,Nat.lt_succ_self _,rfl,⟨(i323+1),z324,(⟨z325.kind,z325.level,z325.value,z325.data,(z325.ports ++ [y333.1])⟩:DAgent),(uz324_0),(uz324_1),(uz325_0),(.slice A367 ((z325.ports ++ [y333.1]).length) c368),s2_5,s4_5,s5_5,rfl,(by omega),Bz324,Guz324_0,Guz324_1,B370,Guz325_0,G362,(Ap.dj (Dj.ap Doz324_0_o9)),(ap_ne (ne_ap Noz324_0_ob4)),(ap_ne (ne_ap Noz324_0_ob15)),(Ap.dj (Dj.ap Doz324_1_oz324_0)),(Ap.dj (Dj.ap Doz324_1_o9)),(ap_ne (ne_ap Noz324_1_ob4)),(ap_ne (ne_ap Noz324_1_ob15)),(Ap.dj (Dj.ap Doz325_0_oz324_0)),(Ap.dj (Dj.ap Doz325_0_oz324_1)),(Ap.dj (Dj.ap Doz325_0_o9)),(ap_ne (ne_ap Noz325_0_ob4)),(ap_ne (ne_ap Noz325_0_ob15)),(Ap.dj (Dj.ap Do366_oz324_0)),(Ap.dj (Dj.ap Do366_oz324_1)),(Ap.dj (Dj.ap Do366_oz325_0)),(Ap.dj (Dj.ap Do366_o9)),(ap_ne (ne_ap No366_ob4)),(ap_ne (ne_ap No366_ob15)),G8,T,(by rw [← hrec5]; exact hm)⟩⟩)
   replace hm:=cT c63 hm
   have pc63:=of_decide_eq_true c63
   refine cond_t rfl (vb rfl c63)<|wp_seq<|wp_rl rfl<|RL.y rfl (Y.loadN (cs:=[.int .i64 (kindNamed x52),.int .i64 0,.int .i64 0,.slice none 0 0,.slice none 0 0]) s5_1x (by kernel_rfl) (cells5 (eqC (blkCell B61 (i:=0) rfl)) (eqC (blkCell B61 (i:=1) rfl)) (eqC (blkCell B61 (i:=2) rfl)) (eqC (blkCell B61 (i:=3) rfl)) (eqC (blkCell B61 (i:=4) rfl)))) ?_
   refine RL.store (v:=.agg #[.int .i64 (kindNamed x52),.int .i64 0,.int .i64 0,.slice none 0 0,.slice none 0 0]) (cs':=#[.int .i64 (kindNamed x52),.int .i64 0,.int .i64 0,.slice none 0 0,.slice none 0 0]) rfl s2_1x rfl B2 (by kernel_rfl) (by rfl) (by rfl) (by rfl) (fun w373 B374 ho375=>?_)
   have szw373:=ho375.size
   have B61:=B61.only_ ho375 (by intro hin; simp at hin; exact Eob15_ob4.symm hin)
   have G8:=OwF.only G8 ho375 Zo9_ob4
   have Guxs33:=OwF.only Guxs33 ho375 Noxs33_ob4
   have G46:=OwF.only G46 ho375 Zo47_ob4
   have T:=T.trans (ho375.below (by first|(simp; done)|(simp; omega)))
   refine RL.y rfl (Y.assign (v:=.bool false) rfl)<|RL.nil<|then_n<|wp_ret ?_
   obtain rfl:=sj hm
   exact (then_r (retct (cs:=[.int .i64 (kindNamed x52),.int .i64 0,.int .i64 0,.slice none 0 0,.slice none 0 0]) rfl rfl s2_1x rfl (by kernel_rfl) (blkCells B374) ⟨⟨_,_,rfl,OwF.nil,OwF.nil,Dj.nil⟩,T⟩))
  rintro g f w378 ⟨xs376,i377,uxs376,s2_1,s4_1,s5_1,s6_1,Guxs376,s7_1,nn7_1,Doxs376_o9,Noxs376_ob4,Noxs376_ob15,B2,B17,G8,T,hm⟩
  rcases g with _|g
  ·simp only [m_spec_l11ReadAgent_L1] at hm; cases hm
  obtain ⟨rec1,hrec1,hm⟩ :∃z,z=m_spec_l11ReadAgent_L1 y5 K1 g∧m_spec_l11ReadAgent_B1 y5 z K1 xs376 i377=some r:=⟨_,rfl,hm⟩
  unfold m_spec_l11ReadAgent_B1 at hm
  refine wp_seq<|wp_seq<|wp_rs rfl<|RQ.y rfl (Y.move (v:=.int .i64 i377) s7_1)<|RQ.y rfl (Y.move (v:=.slice (some ⟨b26,0,none⟩) y5.length c20) s4_1) ?_
  obtain ⟨x379,hx381,hm⟩:=bnd hm
  obtain ⟨k380,hk382,hl383,hx381⟩:=getI_some hx381
  refine RQ.y rfl (Y.indexAddr (m:=k380) (sz:=1) rfl rfl hk382 hl383 (by kernel_rfl))<|RQ.y rfl (Y.load (v:=.string x379) rfl (by kernel_rfl) (eqC (OwF.cell fS G8 hx381 (j:=0) rfl)))<|RQ.y rfl (Y.lenS (by kernel_rfl) rfl)<|RQ.y rfl (Y.binI (v:=.bool (decide (i377 < (x379.size:Int)))) rfl rfl rfl)<|RQ.y rfl (Y.move (v:=.bool (decide (i377 < (x379.size:Int)))) rfl) ?_
  rcases bcases (decide (i377 < (x379.size:Int))) with c384|c384
  ·replace hm:=cF c384 hm
   have pc384:=of_decide_eq_false c384
   iterate 3 refine RQ.skip (wantN (dj:=27) rfl (vb rfl c384) rfl) ?_
   refine RQ.y rfl (Y.pick (b:=false) (v:=.bool false) (vb rfl c384) rfl)<|RQ.nil<|then_n<|cond_f rfl rfl<|wp_exit ?_
   exact (then_x (then_x (hit_x ⟨_,rfl,⟨xs376,(uxs376),s2_1,s4_1,s5_1,s6_1,Guxs376,(Ap.dj (Dj.ap Doxs376_o9)),(ap_ne (ne_ap Noxs376_ob4)),(ap_ne (ne_ap Noxs376_ob15)),B2,B17,G8,T,(by rw [hK1] at hm; exact hm)⟩⟩)))
  replace hm:=cT c384 hm
  have pc384:=of_decide_eq_true c384
  refine RQ.y (wantT (dj:=27) rfl (vb rfl c384)) (Y.move (v:=uxs376) s6_1) ?_
  obtain ⟨A385,c386,rfl⟩:=OwF.form Guxs376
  have qbA385:=OwF.bound Guxs376
  refine RQ.y (wantT (dj:=27) rfl (vb rfl c384)) (Y.len (by kernel_rfl) rfl)<|RQ.y (wantT (dj:=27) rfl (vb rfl c384)) (Y.binI (v:=.bool ((xs376.length:Int)==1)) rfl rfl rfl)<|RQ.y rfl (Y.pick (b:=true) (v:=.bool ((xs376.length:Int)==1)) (vb rfl c384) rfl)<|RQ.nil<|then_n ?_
  rcases bcases ((xs376.length:Int)==1) with c387|c387
  ·replace hm:=cF c387 hm
   refine cond_f rfl (vb rfl c387)<|wp_exit ?_
   exact (then_x (then_x (hit_x ⟨_,rfl,⟨xs376,(.slice A385 xs376.length c386),s2_1,s4_1,s5_1,s6_1,Guxs376,(Ap.dj (Dj.ap Doxs376_o9)),(ap_ne (ne_ap Noxs376_ob4)),(ap_ne (ne_ap Noxs376_ob15)),B2,B17,G8,T,(by rw [hK1] at hm; exact hm)⟩⟩)))
  replace hm:=cT c387 hm
  refine cond_t rfl (vb rfl c387)<|wp_skip<|then_n<|wp_seq<|wp_block<|wp_seq<|wp_rs rfl<|RQ.y rfl (Y.move (v:=.slice (some ⟨b26,0,none⟩) y5.length c20) s4_1) ?_
  obtain ⟨x388,hx390,hm⟩:=bnd hm
  obtain ⟨k389,hk391,hl392,hx390⟩:=getI_some hx390
  refine RQ.y rfl (Y.indexAddr (m:=k389) (sz:=1) rfl rfl hk391 hl392 (by kernel_rfl))<|RQ.y rfl (Y.load (v:=.string x388) rfl (by kernel_rfl) (eqC (OwF.cell fS G8 hx390 (j:=0) rfl)))<|RQ.y rfl (Y.move (v:=.int .i64 i377) s7_1) ?_
  obtain ⟨x393,e394,hm⟩:=bnd hm
  refine RQ.y rfl (Y.idxStr (b:=x393) rfl rfl (by kernel_rfl) e394)<|RQ.y rfl (Y.binI (v:=.bool (x393==61)) rfl rfl rfl)<|RQ.nil<|then_n ?_
  rcases bcases (x393==61) with c395|c395
  ·replace hm:=cF c395 hm
   refine cond_f rfl (vb rfl c395)<|wp_skip ?_
   refine blk_n (then_n ?_)
   refine wp_rs rfl<|RQ.y rfl (Y.move (v:=.int .i64 i377) s7_1) ?_
   obtain ⟨s396,ks396,hm⟩:=bnd hm
   replace ks396:=ck_some ks396
   refine RQ.y rfl (Y.binI (v:=.int .i64 s396) rfl rfl (by rw [binI_add ks396.2,ks396.1]))<|RQ.y rfl (Y.assign (v:=.int .i64 s396) rfl)<|RQ.nil ?_
   exact (then_n ⟨g,_,Nat.lt_succ_self _,rfl,⟨xs376,s396,(.slice A385 xs376.length c386),s2_1,s4_1,s5_1,s6_1,Guxs376,rfl,(by omega),(Ap.dj (Dj.ap Doxs376_o9)),(ap_ne (ne_ap Noxs376_ob4)),(ap_ne (ne_ap Noxs376_ob15)),B2,B17,G8,T,(by rw [← hrec1]; exact hm)⟩⟩)
  replace hm:=cT c395 hm
  refine cond_t rfl (vb rfl c395) ?_
  refine wp_rg (fun w'=>Below w.heap.size w w'∧OwF 9 encS 1 w' w.heap.size (.slice (some ⟨b26,0,none⟩) y5.length c20) y5) [(0,true),(1,true),(2,true),(3,true),(4,true),(5,true),(6,true),(7,true),(8,true),(9,true),(10,true),(11,false),(12,true)] (by kernel_rfl) (by kernel_rfl) (fun w397 hb398 szw397=>?_)
  have B2:=blkT B2 hb398
  have B17:=blkT B17 hb398
  have G8:=OwF.below G8 hb398
  have Guxs376:=OwF.below Guxs376 hb398
  have T:=Tt T hb398
  refine ⟨⟨T,G8⟩,?_⟩
  refine RG.y rfl rfl (Y.move (v:=.slice (some ⟨b26,0,none⟩) y5.length c20) s4_1) ?_
  obtain ⟨x399,hx401,hm⟩:=bnd hm
  obtain ⟨k400,hk402,hl403,hx401⟩:=getI_some hx401
  refine RG.y rfl rfl (Y.indexAddr (m:=k400) (sz:=1) rfl rfl hk402 hl403 (by kernel_rfl))<|RG.y rfl rfl (Y.load (v:=.string x399) rfl (by kernel_rfl) (fun w' hS=>(OwF.cell fS hS.2 hx401 (j:=0) rfl)))<|RG.y rfl rfl (Y.move (v:=.int .i64 i377) s7_1) ?_
  obtain ⟨s404,k405,hm⟩:=bnd hm
  refine RG.y rfl rfl (Y.subHi (s:=s404) rfl rfl (by kernel_rfl) k405)<|RG.y rfl rfl (Y.move (v:=.slice (some ⟨b26,0,none⟩) y5.length c20) s4_1) ?_
  obtain ⟨x406,hx408,hm⟩:=bnd hm
  obtain ⟨k407,hk409,hl410,hx408⟩:=getI_some hx408
  refine RG.y rfl rfl (Y.indexAddr (m:=k407) (sz:=1) rfl rfl hk409 hl410 (by kernel_rfl))<|RG.y rfl rfl (Y.load (v:=.string x406) rfl (by kernel_rfl) (fun w' hS=>(OwF.cell fS hS.2 hx408 (j:=0) rfl)))<|RG.y rfl rfl (Y.move (v:=.int .i64 i377) s7_1) ?_
  obtain ⟨s411,ks411,hm⟩:=bnd hm
  replace ks411:=ck_some ks411
  refine RG.y rfl rfl (Y.binI (v:=.int .i64 s411) rfl rfl (by rw [binI_add ks411.2,ks411.1])) ?_
  obtain ⟨s412,k413,hm⟩:=bnd hm
  refine RG.y rfl rfl (Y.subLo (s:=s412) rfl rfl (by kernel_rfl) k413)<|RG.act rfl ?_
  refine RL.bslice (e:=9) (cells:=#[.string s404,.string s412]) rfl (pm2 rfl rfl) (by kernel_rfl) (fun w414 B415 hb416 szw414=>?_)
  have ZB415:w.heap.size≤w397.heap.size:=T.size
  have No417_ob4:=litNe (n:=2) (c:=2) B2.lt
  have No417_ob15:=litNe (n:=2) (c:=2) B17.lt
  have Do417_o9:=Dj.new (v:=.slice (some ⟨w397.heap.size,0,none⟩) 2 2) litGe (OwF.hi G8)
  have Do417_oxs376:=Dj.new (v:=.slice (some ⟨w397.heap.size,0,none⟩) 2 2) litGe (OwF.hi Guxs376)
  have B2:=blkT B2 hb416
  have B17:=blkT B17 hb416
  have G8:=OwF.below G8 hb416
  have Guxs376:=OwF.below Guxs376 hb416
  have T:=Tt T hb416
  have G418:=OwF.lit (enc:=encS) (sz:=1) (xs:=[s404,s412]) B415 ZB415 rfl rfl rfl rfl
  refine RL.nil ⟨⟨T,G8⟩,?_⟩
  refine RG.y rfl rfl (Y.assign (v:=.slice (some ⟨w397.heap.size,0,none⟩) 2 2) rfl)<|RG.nil ?_
  refine blk_n (then_n ?_)
  refine wp_rs rfl<|RQ.y rfl (Y.move (v:=.int .i64 i377) s7_1) ?_
  obtain ⟨s420,ks420,hm⟩:=bnd hm
  replace ks420:=ck_some ks420
  refine RQ.y rfl (Y.binI (v:=.int .i64 s420) rfl rfl (by rw [binI_add ks420.2,ks420.1]))<|RQ.y rfl (Y.assign (v:=.int .i64 s420) rfl)<|RQ.nil ?_
  exact (then_n ⟨g,_,Nat.lt_succ_self _,rfl,⟨([s404,s412]),s420,(.slice (some ⟨w397.heap.size,0,none⟩) 2 2),s2_1,s4_1,s5_1,rfl,G418,rfl,(by omega),(Ap.dj (Dj.ap Do417_o9)),(ap_ne (ne_ap No417_ob4)),(ap_ne (ne_ap No417_ob15)),B2,B17,G8,T,(by rw [← hrec1]; exact hm)⟩⟩)
def m_spec_ReadNet_A1 (d0:ByteArray) (z19:DNet) (z20:DNet):Option (DNet × Int):=
  ((m_spec_l11Ok z20).bind fun y24=>(bif y24 then ((m_spec_l11Text z20).bind fun y32=>(bif (y32.toList==d0.toList) then some (z20,0) else some ((⟨[]⟩:DNet),6))) else some ((⟨[]⟩:DNet),6)))
def m_spec_ReadNet_B1 (y5:List ByteArray) (rec1:Int→DNet→DNet→Option (DNet × Int)) (K1:DNet→DNet→Option (DNet × Int)) (i43:Int) (z44:DNet) (z45:DNet):Option (DNet × Int):=
  (bif (decide (i43 < (y5.length:Int))) then ((getI y5 i43).bind fun x50=>(bif (decide (i43 > 0)) then (bif (x50.toList==(ByteArray.mk #[]).toList) then some ((⟨[]⟩:DNet),6) else ((getB x50 0).bind fun x127=>(bif (x127 != 32) then some ((⟨[]⟩:DNet),6) else ((subS x50 1 (x50.size:Int)).bind fun s130=>((m_spec_l11ReadAgent s130).bind fun y132=>(bif y132.2 then ((mustP (z45.agents.length+([y132.1]).length≤4294967296)).bind fun _=>(rec1 (i43+1) z44 (⟨(z45.agents ++ [y132.1])⟩:DNet))) else some ((⟨[]⟩:DNet),6))))))) else ((m_spec_l11ReadAgent x50).bind fun y57=>(bif y57.2 then ((mustP (z45.agents.length+([y57.1]).length≤4294967296)).bind fun _=>(rec1 (i43+1) z44 (⟨(z45.agents ++ [y57.1])⟩:DNet))) else some ((⟨[]⟩:DNet),6))))) else (K1 z44 z45))
def m_spec_ReadNet_L1 (y5:List ByteArray) (K1:DNet→DNet→Option (DNet × Int)):Nat→Int→DNet→DNet→Option (DNet × Int)
  |0,_,_,_=>none
  |g+1,i43,z44,z45=>m_spec_ReadNet_B1 y5 (m_spec_ReadNet_L1 y5 K1 g) K1 i43 z44 z45
def m_spec_ReadNet (d0:ByteArray):Option (DNet × Int):=
  ((m_spec_l11Split d0 59).bind fun y5=>(m_spec_ReadNet_L1 y5 (m_spec_ReadNet_A1 d0) (y5.length+1) 0 (⟨[]⟩:DNet) (⟨[]⟩:DNet)))
set_option maxHeartbeats 2000000 in
theorem c_m_spec_ReadNet (d0:ByteArray) (r:DNet × Int) (hm:m_spec_ReadNet d0=some r)  (w:World)  :
    Calls Tryz.prog 10 #[.string d0] w fun e w'=>(∃(v0:Value) (bs0:List Nat),e=.returned (.tuple #[.agg #[v0],.int .i64 r.2])∧OwN 49 agentOw 5 w' w.heap.size v0 r.1.agents bs0)∧Below w.heap.size w w':=by
  have T:=Below.refl w.heap.size w
  unfold m_spec_ReadNet at hm
  refine enter 58 Tryz.func10 rfl rfl rfl ?_
  intro f hf
  have s0:f 0=.string d0:=hf 0 _ rfl
  refine wp_seq<|wp_rl rfl ?_
  refine RL.alloc (z:=.agg #[.slice none 0 0]) rfl (by kernel_rfl) (fun w1 B2 hb3 szw1=>?_)
  replace B2:Blk w1 w.heap.size 29 #[.slice none 0 0]:=B2
  have GB2:w.heap.size≤w.heap.size:=T.size
  have T:=Tt T hb3
  refine RL.y rfl (Y.assign (v:=.int .i64 0) rfl)<|RL.nil<|then_n<|wp_seq<|wp_rl rfl<|RL.y rfl (Y.move (v:=.string d0) s0) ?_
  obtain ⟨y5,e6,hm⟩:=bnd hm
  refine RL.call rfl (am2 rfl rfl) (by kernel_rfl) ((c_m_spec_l11Split d0 59 _ e6  _ ).mono ?_)
  rintro _ w10 ⟨⟨v7,rfl,G8⟩,hb11⟩
  refine ⟨_,rfl,?_⟩
  have szw10:=hb11.size
  have T0w10:=T.size
  have Zo9_ob4:=ap_ne (Ap.new (OwF.flo G8) (one_hi B2.lt))
  have B2:=blkT B2 hb11
  have T:=Tt T hb11
  replace G8:=OwF.mono G8 T0w10
  refine RL.y rfl (Y.assign (v:=v7) rfl)<|RL.nil<|then_n<|wp_seq<|wp_rl rfl<|RL.y rfl (Y.build0 (cells:=#[.slice none 0 0])  (by kernel_rfl) (by kernel_rfl)) ?_
  refine RL.alloc (z:=.agg #[.slice none 0 0]) rfl (by kernel_rfl) (fun w12 B13 hb14 szw12=>?_)
  replace B13:Blk w12 w10.heap.size 29 #[.slice none 0 0]:=B13
  have GB13:w.heap.size≤w10.heap.size:=T.size
  have Eob15_ob4:=Nat.ne_of_lt B2.lt
  have No9_ob15:=OwF.far G8 (Nat.le_refl _)
  have B2:=blkT B2 hb14
  have G8:=OwF.below G8 hb14
  have T:=Tt T hb14
  refine RL.store (v:=.agg #[.slice none 0 0]) (cs':=#[.slice none 0 0]) rfl rfl rfl B13 (by kernel_rfl) (by rfl) (by rfl) (by rfl) (fun w16 B17 ho18=>?_)
  have szw16:=ho18.size
  have B2:=B2.only_ ho18 (by intro hin; simp at hin; exact Eob15_ob4 hin)
  have G8:=OwF.only G8 ho18 No9_ob15
  have T:=T.trans (ho18.below (by first|(simp; done)|(simp; omega)))
  refine RL.nil<|then_n<|wp_seq<|wp_seq<|wp_rs rfl<|RQ.y rfl (Y.assign (v:=.int .i64 0) rfl)<|RQ.nil<|then_n<|wp_block ?_
  obtain ⟨K1,hK1,hm⟩ :∃K,K=(m_spec_ReadNet_A1 d0)∧m_spec_ReadNet_L1 y5 K (y5.length+1) 0 (⟨[]⟩:DNet) (⟨[]⟩:DNet)=some r:=⟨_,rfl,hm⟩
  refine wp_loopX (fun g f w'=>∃(i43:Int) (z44:DNet) (z45:DNet) (uz44_0:Value) (bsz44_0:List Nat) (uz45_0:Value) (bsz45_0:List Nat),f 0=.string d0∧f 2=.pointer (some ⟨w.heap.size,0,none⟩)∧f 4=v7∧f 5=.pointer (some ⟨w10.heap.size,0,none⟩)∧f 6=.int .i64 i43∧0≤i43∧Blk w' w.heap.size 29 #[uz44_0]∧OwN 49 agentOw 5 w' w.heap.size uz44_0 z44.agents bsz44_0∧Blk w' w10.heap.size 29 #[uz45_0]∧OwN 49 agentOw 5 w' w.heap.size uz45_0 z45.agents bsz45_0∧Ap bsz44_0 (fb v7)∧Ap bsz44_0 [w.heap.size]∧Ap bsz44_0 [w10.heap.size]∧Ap bsz45_0 bsz44_0∧Ap bsz45_0 (fb v7)∧Ap bsz45_0 [w.heap.size]∧Ap bsz45_0 [w10.heap.size]∧OwF 9 encS 1 w' w.heap.size v7 y5∧Below w.heap.size w w'∧m_spec_ReadNet_L1 y5 K1 g i43 z44 z45=some r) 0 (fun f w'=>∃(z19:DNet) (z20:DNet) (uz19_0:Value) (bsz19_0:List Nat) (uz20_0:Value) (bsz20_0:List Nat),f 0=.string d0∧f 2=.pointer (some ⟨w.heap.size,0,none⟩)∧f 5=.pointer (some ⟨w10.heap.size,0,none⟩)∧Blk w' w.heap.size 29 #[uz19_0]∧OwN 49 agentOw 5 w' w.heap.size uz19_0 z19.agents bsz19_0∧Blk w' w10.heap.size 29 #[uz20_0]∧OwN 49 agentOw 5 w' w.heap.size uz20_0 z20.agents bsz20_0∧Ap bsz19_0 [w.heap.size]∧Ap bsz19_0 [w10.heap.size]∧Ap bsz20_0 bsz19_0∧Ap bsz20_0 [w.heap.size]∧Ap bsz20_0 [w10.heap.size]∧Below w.heap.size w w'∧m_spec_ReadNet_A1 d0 z19 z20=some r) (y5.length+1) ⟨0,(⟨[]⟩:DNet),(⟨[]⟩:DNet),(.slice none 0 0),[],(.slice none 0 0),[],s0,rfl,rfl,rfl,rfl,(by omega),B2,OwN.nil,B17,OwN.nil,Ap.nil,Ap.nil,Ap.nil,Ap.nil,Ap.nil,Ap.nil,Ap.nil,G8,T,hm⟩ ?_ ?_
  ·rintro f w21 ⟨z19,z20,uz19_0,bsz19_0,uz20_0,bsz20_0,s0_1x,s2_1x,s5_1x,Bz19,Guz19_0,Bz20,Guz20_0,Noz19_0_ob4,Noz19_0_ob15,Doz20_0_oz19_0,Noz20_0_ob4,Noz20_0_ob15,T,hm⟩
   unfold m_spec_ReadNet_A1 at hm
   refine blk_hit (then_n ?_)
   refine wp_seq<|wp_seq<|wp_rb rfl ?_
   obtain ⟨A22,c23,rfl⟩:=OwN.form Guz20_0
   have qbA22:=OwN.bound Guz20_0
   obtain ⟨y24,e25,hm⟩:=bnd hm
   refine RQ.call rfl (am1 s5_1x) (by kernel_rfl) (v:=.bool y24) (bel (K:=fun _=>True) fun w' hb'=>(c_m_spec_l11Ok z20 _ e25 _ w' (ptBox (R:=netRd) (blkT Bz20 hb') ⟨_,_,_,rfl,(OwN.sl agentOw_ok (agentOw_reads _) (OwN.below agentOw_ok Guz20_0 hb'))⟩)))<|RQ.y rfl (Y.not (b':=(!y24)) rfl rfl)<|RQ.y rfl (Y.move (v:=.bool (!y24)) rfl) ?_
   rcases bcases y24 with c26|c26
   ·replace hm:=cF c26 hm
    iterate 3 refine RQ.skip (wantN (dj:=51) rfl (vbn rfl c26 rfl) rfl) ?_
    refine RQ.y rfl (Y.pick (b:=true) (v:=.bool true) (vbn rfl c26 rfl) rfl)<|RQ.nil ?_
    intro w27 hb28
    have szw27:=hb28.size
    have Bz19:=blkT Bz19 hb28
    have Bz20:=blkT Bz20 hb28
    have Guz19_0:=OwN.below agentOw_ok Guz19_0 hb28
    have Guz20_0:=OwN.below agentOw_ok Guz20_0 hb28
    have T:=Tt T hb28
    refine then_n<|cond_t rfl rfl<|wp_seq<|wp_rl rfl<|RL.y rfl (Y.build0 (cells:=#[.slice none 0 0])  (by kernel_rfl) (by kernel_rfl)) ?_
    refine RL.store (v:=.agg #[.slice none 0 0]) (cs':=#[.slice none 0 0]) rfl s2_1x rfl Bz19 (by kernel_rfl) (by rfl) (by rfl) (by rfl) (fun w29 B30 ho31=>?_)
    have szw29:=ho31.size
    have Bz20:=Bz20.only_ ho31 (by intro hin; simp at hin; exact Eob15_ob4.symm hin)
    have Guz19_0:=OwN.only agentOw_ok Guz19_0 ho31 (Ap.one Noz19_0_ob4)
    have Guz20_0:=OwN.only agentOw_ok Guz20_0 ho31 (Ap.one Noz20_0_ob4)
    have T:=T.trans (ho31.below (by first|(simp; done)|(simp; omega)))
    refine RL.y rfl (Y.assign (v:=.int .i64 6) rfl)<|RL.nil<|then_n<|wp_ret ?_
    obtain rfl:=sj hm
    exact (then_r (retct (cs:=[.slice none 0 0]) rfl rfl s2_1x rfl (by kernel_rfl) (blkCells B30) ⟨⟨_,_,rfl,OwN.nil⟩,T⟩))
   replace hm:=cT c26 hm
   obtain ⟨y32,e33,hm⟩:=bnd hm
   refine RQ.call (wantT (dj:=51) rfl (vbn rfl c26 rfl)) (am1 s5_1x) (by kernel_rfl) (v:=.string y32) (bel (K:=fun _=>True) fun w' hb'=>(c_m_spec_l11Text z20 _ e33 _ w' (ptBox (R:=netRd) (blkT Bz20 hb') ⟨_,_,_,rfl,(OwN.sl agentOw_ok (agentOw_reads _) (OwN.below agentOw_ok Guz20_0 hb'))⟩)))<|RQ.y (wantT (dj:=51) rfl (vbn rfl c26 rfl)) (Y.move (v:=.string d0) s0_1x)<|RQ.y (wantT (dj:=51) rfl (vbn rfl c26 rfl)) (Y.neStr rfl rfl (by kernel_rfl))<|RQ.y rfl (Y.pick (b:=false) (v:=.bool (!(y32.toList==d0.toList))) (vbn rfl c26 rfl) rfl)<|RQ.nil ?_
   intro w34 hb35
   have szw34:=hb35.size
   have Bz19:=blkT Bz19 hb35
   have Bz20:=blkT Bz20 hb35
   have Guz19_0:=OwN.below agentOw_ok Guz19_0 hb35
   have Guz20_0:=OwN.below agentOw_ok Guz20_0 hb35
   have T:=Tt T hb35
   refine then_n ?_
   rcases bcases (y32.toList==d0.toList) with c36|c36
   ·replace hm:=cF c36 hm
    refine cond_t rfl (vbn rfl c36 rfl)<|wp_seq<|wp_rl rfl<|RL.y rfl (Y.build0 (cells:=#[.slice none 0 0])  (by kernel_rfl) (by kernel_rfl)) ?_
    refine RL.store (v:=.agg #[.slice none 0 0]) (cs':=#[.slice none 0 0]) rfl s2_1x rfl Bz19 (by kernel_rfl) (by rfl) (by rfl) (by rfl) (fun w37 B38 ho39=>?_)
    have szw37:=ho39.size
    have Bz20:=Bz20.only_ ho39 (by intro hin; simp at hin; exact Eob15_ob4.symm hin)
    have Guz19_0:=OwN.only agentOw_ok Guz19_0 ho39 (Ap.one Noz19_0_ob4)
    have Guz20_0:=OwN.only agentOw_ok Guz20_0 ho39 (Ap.one Noz20_0_ob4)
    have T:=T.trans (ho39.below (by first|(simp; done)|(simp; omega)))
    refine RL.y rfl (Y.assign (v:=.int .i64 6) rfl)<|RL.nil<|then_n<|wp_ret ?_
    obtain rfl:=sj hm
    exact (then_r (retct (cs:=[.slice none 0 0]) rfl rfl s2_1x rfl (by kernel_rfl) (blkCells B38) ⟨⟨_,_,rfl,OwN.nil⟩,T⟩))
   replace hm:=cT c36 hm
   refine cond_f rfl (vbn rfl c36 rfl)<|wp_skip<|then_n<|wp_seq<|wp_rl rfl<|RL.y rfl (Y.loadN (cs:=[.slice A22 z20.agents.length c23]) s5_1x (by kernel_rfl) (cells1 (eqC (blkCell Bz20 (i:=0) rfl)))) ?_
   refine RL.store (v:=.agg #[.slice A22 z20.agents.length c23]) (cs':=#[.slice A22 z20.agents.length c23]) rfl s2_1x rfl Bz19 (by kernel_rfl) (by rfl) (by rfl) (by rfl) (fun w40 B41 ho42=>?_)
   have szw40:=ho42.size
   have Bz20:=Bz20.only_ ho42 (by intro hin; simp at hin; exact Eob15_ob4.symm hin)
   have Guz19_0:=OwN.only agentOw_ok Guz19_0 ho42 (Ap.one Noz19_0_ob4)
   have Guz20_0:=OwN.only agentOw_ok Guz20_0 ho42 (Ap.one Noz20_0_ob4)
   have T:=T.trans (ho42.below (by first|(simp; done)|(simp; omega)))
   refine RL.y rfl (Y.assign (v:=.int .i64 0) rfl)<|RL.nil<|then_n<|wp_ret ?_
   obtain rfl:=sj hm
   exact (retct (cs:=[.slice A22 z20.agents.length c23]) rfl rfl s2_1x rfl (by kernel_rfl) (blkCells B41) ⟨⟨_,_,rfl,Guz20_0⟩,T⟩)
  rintro g f w46 ⟨i43,z44,z45,uz44_0,bsz44_0,uz45_0,bsz45_0,s0_1,s2_1,s4_1,s5_1,s6_1,nn6_1,Bz44,Guz44_0,Bz45,Guz45_0,Doz44_0_o9,Noz44_0_ob4,Noz44_0_ob15,Doz45_0_oz44_0,Doz45_0_o9,Noz45_0_ob4,Noz45_0_ob15,G8,T,hm⟩
  rcases g with _|g
  ·simp only [m_spec_ReadNet_L1] at hm; cases hm
  obtain ⟨rec1,hrec1,hm⟩ :∃z,z=m_spec_ReadNet_L1 y5 K1 g∧m_spec_ReadNet_B1 y5 z K1 i43 z44 z45=some r:=⟨_,rfl,hm⟩
  unfold m_spec_ReadNet_B1 at hm
  refine wp_seq<|wp_seq<|wp_rs rfl<|RQ.y rfl (Y.move (v:=.int .i64 i43) s6_1)<|RQ.y rfl (Y.move (v:=v7) s4_1) ?_
  obtain ⟨A47,c48,rfl⟩:=OwF.form G8
  have qbA47:=OwF.bound G8
  refine RQ.y rfl (Y.len (by kernel_rfl) rfl)<|RQ.y rfl (Y.binI (v:=.bool (decide (i43 < (y5.length:Int)))) rfl rfl rfl)<|RQ.nil<|then_n ?_
  rcases bcases (decide (i43 < (y5.length:Int))) with c49|c49
  ·replace hm:=cF c49 hm
   have pc49:=of_decide_eq_false c49
   refine cond_f rfl (vb rfl c49)<|wp_exit ?_
   exact (then_x (then_x (hit_x ⟨_,rfl,⟨z44,z45,(uz44_0),bsz44_0,(uz45_0),bsz45_0,s0_1,s2_1,s5_1,Bz44,Guz44_0,Bz45,Guz45_0,Noz44_0_ob4,Noz44_0_ob15,Doz45_0_oz44_0,Noz45_0_ob4,Noz45_0_ob15,T,(by rw [hK1] at hm; exact hm)⟩⟩)))
  replace hm:=cT c49 hm
  have pc49:=of_decide_eq_true c49
  refine cond_t rfl (vb rfl c49)<|wp_skip<|then_n<|wp_seq<|wp_block<|wp_seq<|wp_rs rfl<|RQ.y rfl (Y.move (v:=.slice A47 y5.length c48) s4_1)<|RQ.y rfl (Y.move (v:=.int .i64 i43) s6_1) ?_
  obtain ⟨x50,hx52,hm⟩:=bnd hm
  obtain ⟨k51,hk53,hl54,hx52⟩:=getI_some hx52
  obtain ⟨b55,rfl⟩:=OwF.addr0 G8 (by omega)
  refine RQ.y rfl (Y.indexAddr (m:=k51) (sz:=1) rfl rfl hk53 hl54 (by kernel_rfl))<|RQ.y rfl (Y.load (v:=.string x50) rfl (by kernel_rfl) (eqC (OwF.cell fS G8 hx52 (j:=0) rfl)))<|RQ.y rfl (Y.assign (v:=.string x50) rfl)<|RQ.nil<|then_n<|wp_seq<|wp_seq<|wp_rs rfl<|RQ.y rfl (Y.move (v:=.int .i64 i43) s6_1)<|RQ.y rfl (Y.binI (v:=.bool (decide (i43 > 0))) rfl rfl rfl)<|RQ.nil<|then_n ?_
  rcases bcases (decide (i43 > 0)) with c56|c56
  ·replace hm:=cF c56 hm
   have pc56:=of_decide_eq_false c56
   refine cond_f rfl (vb rfl c56)<|wp_skip<|then_n<|wp_seq<|wp_rl rfl<|RL.y rfl (Y.move (v:=.string x50) rfl) ?_
   obtain ⟨y57,e58,hm⟩:=bnd hm
   refine RL.call rfl (am1 rfl) (by kernel_rfl) ((c_m_spec_l11ReadAgent x50 _ e58  _ ).mono ?_)
   rintro _ w65 ⟨⟨v59,v62,rfl,G60,G63,Ro61_o64⟩,hb66⟩
   refine ⟨_,rfl,?_⟩
   have szw65:=hb66.size
   have T0w65:=T.size
   have Zo61_ob4:=ap_ne (Ap.new (OwF.flo G60) (one_hi Bz44.lt))
   have Zo61_ob15:=ap_ne (Ap.new (OwF.flo G60) (one_hi Bz45.lt))
   have Zo61_o9:=Ap.dj (Ap.new (OwF.flo G60) (OwF.fhi G8))
   have Zo61_oz44_0:Ap (fb v59) bsz44_0:=(Ap.new (OwF.flo G60) (OwN.hi Guz44_0))
   have Zo61_oz45_0:Ap (fb v59) bsz45_0:=(Ap.new (OwF.flo G60) (OwN.hi Guz45_0))
   have Zo64_ob4:=ap_ne (Ap.new (OwF.flo G63) (one_hi Bz44.lt))
   have Zo64_ob15:=ap_ne (Ap.new (OwF.flo G63) (one_hi Bz45.lt))
   have Zo64_o9:=Ap.dj (Ap.new (OwF.flo G63) (OwF.fhi G8))
   have Zo64_oz44_0:Ap (fb v62) bsz44_0:=(Ap.new (OwF.flo G63) (OwN.hi Guz44_0))
   have Zo64_oz45_0:Ap (fb v62) bsz45_0:=(Ap.new (OwF.flo G63) (OwN.hi Guz45_0))
   have Bz44:=blkT Bz44 hb66
   have Bz45:=blkT Bz45 hb66
   have G8:=OwF.below G8 hb66
   have Guz44_0:=OwN.below agentOw_ok Guz44_0 hb66
   have Guz45_0:=OwN.below agentOw_ok Guz45_0 hb66
   have T:=Tt T hb66
   replace G60:=OwF.mono G60 T0w65
   replace G63:=OwF.mono G63 T0w65
   refine RL.y rfl (Y.move (v:=.tuple #[.agg #[.int .i64 y57.1.kind,.int .i64 y57.1.level,.int .i64 y57.1.value,v59,v62],.bool y57.2]) rfl)<|RL.y rfl (Y.extract (i:=0) rfl rfl)<|RL.y rfl (Y.extract (i:=1) rfl rfl) ?_
   refine RL.alloc (z:=.agg #[.int .i64 0,.int .i64 0,.int .i64 0,.slice none 0 0,.slice none 0 0]) rfl (by kernel_rfl) (fun w67 B68 hb69 szw67=>?_)
   replace B68:Blk w67 w65.heap.size 49 #[.int .i64 0,.int .i64 0,.int .i64 0,.slice none 0 0,.slice none 0 0]:=B68
   have GB68:w.heap.size≤w65.heap.size:=T.size
   have Eob70_ob4:=Nat.ne_of_lt Bz44.lt
   have Eob70_ob15:=Nat.ne_of_lt Bz45.lt
   have No9_ob70:=OwF.far G8 (Nat.le_refl _)
   have Noz44_0_ob70:=Ap.far (OwN.hi Guz44_0)
   have Noz45_0_ob70:=Ap.far (OwN.hi Guz45_0)
   have No61_ob70:=OwF.far G60 (Nat.le_refl _)
   have No64_ob70:=OwF.far G63 (Nat.le_refl _)
   have Bz44:=blkT Bz44 hb69
   have Bz45:=blkT Bz45 hb69
   have G8:=OwF.below G8 hb69
   have Guz44_0:=OwN.below agentOw_ok Guz44_0 hb69
   have Guz45_0:=OwN.below agentOw_ok Guz45_0 hb69
   have G60:=OwF.below G60 hb69
   have G63:=OwF.below G63 hb69
   have T:=Tt T hb69
   obtain ⟨A71,c72,rfl⟩:=OwF.form G60
   have qbA71:=OwF.bound G60
   obtain ⟨A73,c74,rfl⟩:=OwF.form G63
   have qbA73:=OwF.bound G63
   refine RL.store (v:=.agg #[.int .i64 y57.1.kind,.int .i64 y57.1.level,.int .i64 y57.1.value,.slice A71 y57.1.data.length c72,.slice A73 y57.1.ports.length c74]) (cs':=#[.int .i64 y57.1.kind,.int .i64 y57.1.level,.int .i64 y57.1.value,.slice A71 y57.1.data.length c72,.slice A73 y57.1.ports.length c74]) rfl rfl rfl B68 (by kernel_rfl) (by rfl) (by rfl) (by rfl) (fun w75 B76 ho77=>?_)
   have szw75:=ho77.size
   have Bz44:=Bz44.only_ ho77 (by intro hin; simp at hin; exact Eob70_ob4 hin)
   have Bz45:=Bz45.only_ ho77 (by intro hin; simp at hin; exact Eob70_ob15 hin)
   have G8:=OwF.only G8 ho77 No9_ob70
   have Guz44_0:=OwN.only agentOw_ok Guz44_0 ho77 (Ap.one Noz44_0_ob70)
   have Guz45_0:=OwN.only agentOw_ok Guz45_0 ho77 (Ap.one Noz45_0_ob70)
   have G60:=OwF.only G60 ho77 No61_ob70
   have G63:=OwF.only G63 ho77 No64_ob70
   have T:=T.trans (ho77.below (by first|(simp; done)|(simp; omega)))
   refine RL.y rfl (Y.assign (v:=.bool y57.2) rfl)<|RL.nil<|then_n<|wp_seq<|wp_seq<|wp_rs rfl<|RQ.y rfl (Y.move (v:=.bool y57.2) rfl)<|RQ.y rfl (Y.not (b':=(!y57.2)) rfl rfl)<|RQ.nil<|then_n ?_
   rcases bcases y57.2 with c78|c78
   ·replace hm:=cF c78 hm
    refine cond_t rfl (vbn rfl c78 rfl)<|wp_seq<|wp_rl rfl<|RL.y rfl (Y.build0 (cells:=#[.slice none 0 0])  (by kernel_rfl) (by kernel_rfl)) ?_
    refine RL.store (v:=.agg #[.slice none 0 0]) (cs':=#[.slice none 0 0]) rfl s2_1 rfl Bz44 (by kernel_rfl) (by rfl) (by rfl) (by rfl) (fun w79 B80 ho81=>?_)
    have szw79:=ho81.size
    have Bz45:=Bz45.only_ ho81 (by intro hin; simp at hin; exact Eob15_ob4.symm hin)
    have B76:=B76.only_ ho81 (by intro hin; simp at hin; exact Eob70_ob4.symm hin)
    have G8:=OwF.only G8 ho81 Zo9_ob4
    have Guz44_0:=OwN.only agentOw_ok Guz44_0 ho81 (Ap.one Noz44_0_ob4)
    have Guz45_0:=OwN.only agentOw_ok Guz45_0 ho81 (Ap.one Noz45_0_ob4)
    have G60:=OwF.only G60 ho81 Zo61_ob4
    have G63:=OwF.only G63 ho81 Zo64_ob4
    have T:=T.trans (ho81.below (by first|(simp; done)|(simp; omega)))
    refine RL.y rfl (Y.assign (v:=.int .i64 6) rfl)<|RL.nil<|then_n<|wp_ret ?_
    obtain rfl:=sj hm
    exact (then_r (blk_r (then_r (then_r (hit_r (blk_r (then_r (retct (cs:=[.slice none 0 0]) rfl rfl s2_1 rfl (by kernel_rfl) (blkCells B80) ⟨⟨_,_,rfl,OwN.nil⟩,T⟩))))))))
   replace hm:=cT c78 hm
   refine cond_f rfl (vbn rfl c78 rfl)<|wp_skip<|then_n<|wp_rl rfl<|RL.y rfl (Y.fieldAddr (off:=0) s5_1 (by kernel_rfl))<|RL.y rfl (Y.load (v:=uz45_0) rfl (by kernel_rfl) (eqC (blkCell Bz45 (i:=0) rfl)))<|RL.y rfl (Y.loadN (cs:=[.int .i64 y57.1.kind,.int .i64 y57.1.level,.int .i64 y57.1.value,.slice A71 y57.1.data.length c72,.slice A73 y57.1.ports.length c74]) rfl (by kernel_rfl) (cells5 (eqC (blkCell B76 (i:=0) rfl)) (eqC (blkCell B76 (i:=1) rfl)) (eqC (blkCell B76 (i:=2) rfl)) (eqC (blkCell B76 (i:=3) rfl)) (eqC (blkCell B76 (i:=4) rfl)))) ?_
   refine RL.bslice (e:=49) (cells:=#[.int .i64 y57.1.kind,.int .i64 y57.1.level,.int .i64 y57.1.value,.slice A71 y57.1.data.length c72,.slice A73 y57.1.ports.length c74]) rfl (pm1 rfl) (by kernel_rfl) (fun w82 B83 hb84 szw82=>?_)
   have ZB83:w.heap.size≤w75.heap.size:=T.size
   have q86:=OwF.fboth G60 (Nat.le_refl _)
   have q87:=OwF.fboth G63 (Nat.le_refl _)
   have z88:=Ap.cons (Ap.farL (one_hi Bz44.lt)) (Ap.append (ne_ap Zo61_ob4) (ne_ap Zo64_ob4))
   have z89:=Ap.cons (Ap.farL (one_hi Bz45.lt)) (Ap.append (ne_ap Zo61_ob15) (ne_ap Zo64_ob15))
   have z90:=Ap.cons (Ap.farL (one_hi B76.lt)) (Ap.append (ne_ap No61_ob70) (ne_ap No64_ob70))
   have z91:=Ap.cons (Ap.farL (OwF.fhi G8)) (Ap.append (Dj.ap Zo61_o9) (Dj.ap Zo64_o9))
   have z92:=Ap.cons (Ap.farL (OwN.hi Guz44_0)) (Ap.append Zo61_oz44_0 Zo64_oz44_0)
   have z93:=Ap.cons (Ap.farL (OwN.hi Guz45_0)) (Ap.append Zo61_oz45_0 Zo64_oz45_0)
   have Bz44:=blkT Bz44 hb84
   have Bz45:=blkT Bz45 hb84
   have B76:=blkT B76 hb84
   have G8:=OwF.below G8 hb84
   have Guz44_0:=OwN.below agentOw_ok Guz44_0 hb84
   have Guz45_0:=OwN.below agentOw_ok Guz45_0 hb84
   have G60:=OwF.below G60 hb84
   have G63:=OwF.below G63 hb84
   have T:=Tt T hb84
   obtain ⟨l95,a94,nd96,sb97,r98⟩:=OwF.own2 fI G60
   obtain ⟨l100,a99,nd101,sb102,r103⟩:=OwF.own2 fPort G63
   have G104:OwN 49 agentOw 5 w82 w.heap.size (.slice (some ⟨w75.heap.size,0,none⟩) 1 1) [y57.1] (w75.heap.size :: ((fb (.slice A71 y57.1.data.length c72)) ++ (fb (.slice A73 y57.1.ports.length c74)))):=OwN.lit1 (b1:=(l95 ++ l100)) B83 ZB83 ⟨_,_,_,_,_,_,l95,l100,rfl,⟨a94,r98⟩,⟨a99,r103⟩,rfl⟩ agentOw_ok (nodup2 nd96 nd101 sb97 sb102 (Dj.ap Ro61_o64)) (sub2 sb97 sb102) (all2 q86 q87)
   obtain ⟨_,m106,hm⟩:=bnd hm
   have hk107:=mustP_some m106
   refine RL.appendN agentOw_ok agentOw_one (by decide) app_impl_Agent rfl rfl rfl Guz45_0 G104 (Ap.symm z93) T.size hk107 (fun v108 w109 bs110 G111 hgr112 hbl113 hnb114=>?_)
   have szw109:=hbl113.size
   have z116:=Ap.app hnb114 Noz45_0_ob4 z88 (one_hi Bz44.lt)
   have z117:=Ap.app hnb114 Noz45_0_ob15 z89 (one_hi Bz45.lt)
   have z118:=Ap.app hnb114 Noz45_0_ob70 z90 (one_hi B76.lt)
   have z119:=Ap.app hnb114 Doz45_0_o9 z91 (OwF.fhi G8)
   have z120:=Ap.app hnb114 Doz45_0_oz44_0 z92 (OwN.hi Guz44_0)
   have Bz44:=Blk.kept Bz44 hgr112 (OwN.neB Guz45_0 Noz45_0_ob4)
   have Bz45:=Blk.kept Bz45 hgr112 (OwN.neB Guz45_0 Noz45_0_ob15)
   have B76:=Blk.kept B76 hgr112 (OwN.neB Guz45_0 Noz45_0_ob70)
   have G8:=OwF.keptD G8 hgr112 (OwN.dj Guz45_0 Doz45_0_o9)
   have Guz44_0:=OwN.grown agentOw_ok Guz44_0 hgr112 (OwN.apRow Guz45_0 Doz45_0_oz44_0)
   have T:=T.trans hbl113
   refine RL.y rfl (Y.fieldAddr (off:=0) s5_1 (by kernel_rfl)) ?_
   obtain ⟨A121,c122,rfl⟩:=OwN.form G111
   have qbA121:=OwN.bound G111
   refine RL.store (v:=.slice A121 ((z45.agents ++ [y57.1]).length) c122) (cs':=#[.slice A121 ((z45.agents ++ [y57.1]).length) c122]) rfl rfl rfl Bz45 (by kernel_rfl) (by rfl) (by rfl) (by rfl) (fun w123 B124 ho125=>?_)
   have szw123:=ho125.size
   have Bz44:=Bz44.only_ ho125 (by intro hin; simp at hin; exact Eob15_ob4 hin)
   have B76:=B76.only_ ho125 (by intro hin; simp at hin; exact Eob70_ob15.symm hin)
   have G8:=OwF.only G8 ho125 No9_ob15
   have Guz44_0:=OwN.only agentOw_ok Guz44_0 ho125 (Ap.one Noz44_0_ob15)
   have G111:=OwN.only agentOw_ok G111 ho125 (Ap.one z117)
   have T:=T.trans (ho125.below (by first|(simp; done)|(simp; omega)))
   refine RL.nil ?_
   refine blk_n (then_n ?_)
   refine wp_rs rfl<|RQ.y rfl (Y.move (v:=.int .i64 i43) s6_1)<|RQ.y rfl (Y.binI rfl rfl (binI_add (m:=i43) (by omega)))<|RQ.y rfl (Y.assign (v:=.int .i64 (i43+1)) rfl)<|RQ.nil ?_
   exact (then_n ⟨g,_,Nat.lt_succ_self _,rfl,⟨(i43+1),z44,(⟨(z45.agents ++ [y57.1])⟩:DNet),(uz44_0),bsz44_0,(.slice A121 ((z45.agents ++ [y57.1]).length) c122),bs110,s0_1,s2_1,s4_1,s5_1,rfl,(by omega),Bz44,Guz44_0,B124,G111,Doz44_0_o9,Noz44_0_ob4,Noz44_0_ob15,z120,z119,z116,z117,G8,T,(by rw [← hrec1]; exact hm)⟩⟩)
  replace hm:=cT c56 hm
  have pc56:=of_decide_eq_true c56
  refine cond_t rfl (vb rfl c56)<|wp_seq<|wp_seq<|wp_rs rfl<|RQ.y rfl (Y.move (v:=.string x50) rfl)<|RQ.y rfl (Y.eqStr rfl rfl (by kernel_rfl))<|RQ.y rfl (Y.move (v:=.bool (x50.toList==(ByteArray.mk #[]).toList)) rfl) ?_
  rcases bcases (x50.toList==(ByteArray.mk #[]).toList) with c126|c126
  ·replace hm:=cF c126 hm
   refine RQ.y (wantT (dj:=27) rfl (vb rfl c126)) (Y.move (v:=.string x50) rfl) ?_
   obtain ⟨x127,e128,hm⟩:=bnd hm
   refine RQ.y (wantT (dj:=27) rfl (vb rfl c126)) (Y.idxStr (b:=x127) rfl rfl (by kernel_rfl) e128)<|RQ.y (wantT (dj:=27) rfl (vb rfl c126)) (Y.binI (v:=.bool (x127 != 32)) rfl rfl rfl)<|RQ.y rfl (Y.pick (b:=false) (v:=.bool (x127 != 32)) (vb rfl c126) rfl)<|RQ.nil<|then_n ?_
   rcases bcases (x127 != 32) with c129|c129
   ·replace hm:=cF c129 hm
    refine cond_f rfl (vb rfl c129)<|wp_skip<|then_n<|wp_rs rfl<|RQ.y rfl (Y.move (v:=.string x50) rfl) ?_
    obtain ⟨s130,k131,hm⟩:=bnd hm
    refine RQ.y rfl (Y.subLo (s:=s130) rfl rfl (by kernel_rfl) k131)<|RQ.y rfl (Y.assign (v:=.string s130) rfl)<|RQ.nil<|then_n<|wp_seq<|wp_rl rfl<|RL.y rfl (Y.move (v:=.string s130) rfl) ?_
    obtain ⟨y132,e133,hm⟩:=bnd hm
    refine RL.call rfl (am1 rfl) (by kernel_rfl) ((c_m_spec_l11ReadAgent s130 _ e133  _ ).mono ?_)
    rintro _ w140 ⟨⟨v134,v137,rfl,G135,G138,Ro136_o139⟩,hb141⟩
    refine ⟨_,rfl,?_⟩
    have szw140:=hb141.size
    have T0w140:=T.size
    have Zo136_ob4:=ap_ne (Ap.new (OwF.flo G135) (one_hi Bz44.lt))
    have Zo136_ob15:=ap_ne (Ap.new (OwF.flo G135) (one_hi Bz45.lt))
    have Zo136_o9:=Ap.dj (Ap.new (OwF.flo G135) (OwF.fhi G8))
    have Zo136_oz44_0:Ap (fb v134) bsz44_0:=(Ap.new (OwF.flo G135) (OwN.hi Guz44_0))
    have Zo136_oz45_0:Ap (fb v134) bsz45_0:=(Ap.new (OwF.flo G135) (OwN.hi Guz45_0))
    have Zo139_ob4:=ap_ne (Ap.new (OwF.flo G138) (one_hi Bz44.lt))
    have Zo139_ob15:=ap_ne (Ap.new (OwF.flo G138) (one_hi Bz45.lt))
    have Zo139_o9:=Ap.dj (Ap.new (OwF.flo G138) (OwF.fhi G8))
    have Zo139_oz44_0:Ap (fb v137) bsz44_0:=(Ap.new (OwF.flo G138) (OwN.hi Guz44_0))
    have Zo139_oz45_0:Ap (fb v137) bsz45_0:=(Ap.new (OwF.flo G138) (OwN.hi Guz45_0))
    have Bz44:=blkT Bz44 hb141
    have Bz45:=blkT Bz45 hb141
    have G8:=OwF.below G8 hb141
    have Guz44_0:=OwN.below agentOw_ok Guz44_0 hb141
    have Guz45_0:=OwN.below agentOw_ok Guz45_0 hb141
    have T:=Tt T hb141
    replace G135:=OwF.mono G135 T0w140
    replace G138:=OwF.mono G138 T0w140
    refine RL.y rfl (Y.move (v:=.tuple #[.agg #[.int .i64 y132.1.kind,.int .i64 y132.1.level,.int .i64 y132.1.value,v134,v137],.bool y132.2]) rfl)<|RL.y rfl (Y.extract (i:=0) rfl rfl)<|RL.y rfl (Y.extract (i:=1) rfl rfl) ?_
    refine RL.alloc (z:=.agg #[.int .i64 0,.int .i64 0,.int .i64 0,.slice none 0 0,.slice none 0 0]) rfl (by kernel_rfl) (fun w142 B143 hb144 szw142=>?_)
    replace B143:Blk w142 w140.heap.size 49 #[.int .i64 0,.int .i64 0,.int .i64 0,.slice none 0 0,.slice none 0 0]:=B143
    have GB143:w.heap.size≤w140.heap.size:=T.size
    have Eob145_ob4:=Nat.ne_of_lt Bz44.lt
    have Eob145_ob15:=Nat.ne_of_lt Bz45.lt
    have No9_ob145:=OwF.far G8 (Nat.le_refl _)
    have Noz44_0_ob145:=Ap.far (OwN.hi Guz44_0)
    have Noz45_0_ob145:=Ap.far (OwN.hi Guz45_0)
    have No136_ob145:=OwF.far G135 (Nat.le_refl _)
    have No139_ob145:=OwF.far G138 (Nat.le_refl _)
    have Bz44:=blkT Bz44 hb144
    have Bz45:=blkT Bz45 hb144
    have G8:=OwF.below G8 hb144
    have Guz44_0:=OwN.below agentOw_ok Guz44_0 hb144
    have Guz45_0:=OwN.below agentOw_ok Guz45_0 hb144
    have G135:=OwF.below G135 hb144
    have G138:=OwF.below G138 hb144
    have T:=Tt T hb144
    obtain ⟨A146,c147,rfl⟩:=OwF.form G135
    have qbA146:=OwF.bound G135
    obtain ⟨A148,c149,rfl⟩:=OwF.form G138
    have qbA148:=OwF.bound G138
    refine RL.store (v:=.agg #[.int .i64 y132.1.kind,.int .i64 y132.1.level,.int .i64 y132.1.value,.slice A146 y132.1.data.length c147,.slice A148 y132.1.ports.length c149]) (cs':=#[.int .i64 y132.1.kind,.int .i64 y132.1.level,.int .i64 y132.1.value,.slice A146 y132.1.data.length c147,.slice A148 y132.1.ports.length c149]) rfl rfl rfl B143 (by kernel_rfl) (by rfl) (by rfl) (by rfl) (fun w150 B151 ho152=>?_)
    have szw150:=ho152.size
    have Bz44:=Bz44.only_ ho152 (by intro hin; simp at hin; exact Eob145_ob4 hin)
    have Bz45:=Bz45.only_ ho152 (by intro hin; simp at hin; exact Eob145_ob15 hin)
    have G8:=OwF.only G8 ho152 No9_ob145
    have Guz44_0:=OwN.only agentOw_ok Guz44_0 ho152 (Ap.one Noz44_0_ob145)
    have Guz45_0:=OwN.only agentOw_ok Guz45_0 ho152 (Ap.one Noz45_0_ob145)
    have G135:=OwF.only G135 ho152 No136_ob145
    have G138:=OwF.only G138 ho152 No139_ob145
    have T:=T.trans (ho152.below (by first|(simp; done)|(simp; omega)))
    refine RL.y rfl (Y.assign (v:=.bool y132.2) rfl)<|RL.nil<|then_n<|wp_seq<|wp_seq<|wp_rs rfl<|RQ.y rfl (Y.move (v:=.bool y132.2) rfl)<|RQ.y rfl (Y.not (b':=(!y132.2)) rfl rfl)<|RQ.nil<|then_n ?_
    rcases bcases y132.2 with c153|c153
    ·replace hm:=cF c153 hm
     refine cond_t rfl (vbn rfl c153 rfl)<|wp_seq<|wp_rl rfl<|RL.y rfl (Y.build0 (cells:=#[.slice none 0 0])  (by kernel_rfl) (by kernel_rfl)) ?_
     refine RL.store (v:=.agg #[.slice none 0 0]) (cs':=#[.slice none 0 0]) rfl s2_1 rfl Bz44 (by kernel_rfl) (by rfl) (by rfl) (by rfl) (fun w154 B155 ho156=>?_)
     have szw154:=ho156.size
     have Bz45:=Bz45.only_ ho156 (by intro hin; simp at hin; exact Eob15_ob4.symm hin)
     have B151:=B151.only_ ho156 (by intro hin; simp at hin; exact Eob145_ob4.symm hin)
     have G8:=OwF.only G8 ho156 Zo9_ob4
     have Guz44_0:=OwN.only agentOw_ok Guz44_0 ho156 (Ap.one Noz44_0_ob4)
     have Guz45_0:=OwN.only agentOw_ok Guz45_0 ho156 (Ap.one Noz45_0_ob4)
     have G135:=OwF.only G135 ho156 Zo136_ob4
     have G138:=OwF.only G138 ho156 Zo139_ob4
     have T:=T.trans (ho156.below (by first|(simp; done)|(simp; omega)))
     refine RL.y rfl (Y.assign (v:=.int .i64 6) rfl)<|RL.nil<|then_n<|wp_ret ?_
     obtain rfl:=sj hm
     exact (then_r (blk_r (then_r (then_r (hit_r (blk_r (then_r (retct (cs:=[.slice none 0 0]) rfl rfl s2_1 rfl (by kernel_rfl) (blkCells B155) ⟨⟨_,_,rfl,OwN.nil⟩,T⟩))))))))
    replace hm:=cT c153 hm
    refine cond_f rfl (vbn rfl c153 rfl)<|wp_skip<|then_n<|wp_rl rfl<|RL.y rfl (Y.fieldAddr (off:=0) s5_1 (by kernel_rfl))<|RL.y rfl (Y.load (v:=uz45_0) rfl (by kernel_rfl) (eqC (blkCell Bz45 (i:=0) rfl)))<|RL.y rfl (Y.loadN (cs:=[.int .i64 y132.1.kind,.int .i64 y132.1.level,.int .i64 y132.1.value,.slice A146 y132.1.data.length c147,.slice A148 y132.1.ports.length c149]) rfl (by kernel_rfl) (cells5 (eqC (blkCell B151 (i:=0) rfl)) (eqC (blkCell B151 (i:=1) rfl)) (eqC (blkCell B151 (i:=2) rfl)) (eqC (blkCell B151 (i:=3) rfl)) (eqC (blkCell B151 (i:=4) rfl)))) ?_
    refine RL.bslice (e:=49) (cells:=#[.int .i64 y132.1.kind,.int .i64 y132.1.level,.int .i64 y132.1.value,.slice A146 y132.1.data.length c147,.slice A148 y132.1.ports.length c149]) rfl (pm1 rfl) (by kernel_rfl) (fun w157 B158 hb159 szw157=>?_)
    have ZB158:w.heap.size≤w150.heap.size:=T.size
    have q161:=OwF.fboth G135 (Nat.le_refl _)
    have q162:=OwF.fboth G138 (Nat.le_refl _)
    have z163:=Ap.cons (Ap.farL (one_hi Bz44.lt)) (Ap.append (ne_ap Zo136_ob4) (ne_ap Zo139_ob4))
    have z164:=Ap.cons (Ap.farL (one_hi Bz45.lt)) (Ap.append (ne_ap Zo136_ob15) (ne_ap Zo139_ob15))
    have z165:=Ap.cons (Ap.farL (one_hi B151.lt)) (Ap.append (ne_ap No136_ob145) (ne_ap No139_ob145))
    have z166:=Ap.cons (Ap.farL (OwF.fhi G8)) (Ap.append (Dj.ap Zo136_o9) (Dj.ap Zo139_o9))
    have z167:=Ap.cons (Ap.farL (OwN.hi Guz44_0)) (Ap.append Zo136_oz44_0 Zo139_oz44_0)
    have z168:=Ap.cons (Ap.farL (OwN.hi Guz45_0)) (Ap.append Zo136_oz45_0 Zo139_oz45_0)
    have Bz44:=blkT Bz44 hb159
    have Bz45:=blkT Bz45 hb159
    have B151:=blkT B151 hb159
    have G8:=OwF.below G8 hb159
    have Guz44_0:=OwN.below agentOw_ok Guz44_0 hb159
    have Guz45_0:=OwN.below agentOw_ok Guz45_0 hb159
    have G135:=OwF.below G135 hb159
    have G138:=OwF.below G138 hb159
    have T:=Tt T hb159
    obtain ⟨l170,a169,nd171,sb172,r173⟩:=OwF.own2 fI G135
    obtain ⟨l175,a174,nd176,sb177,r178⟩:=OwF.own2 fPort G138
    have G179:OwN 49 agentOw 5 w157 w.heap.size (.slice (some ⟨w150.heap.size,0,none⟩) 1 1) [y132.1] (w150.heap.size :: ((fb (.slice A146 y132.1.data.length c147)) ++ (fb (.slice A148 y132.1.ports.length c149)))):=OwN.lit1 (b1:=(l170 ++ l175)) B158 ZB158 ⟨_,_,_,_,_,_,l170,l175,rfl,⟨a169,r173⟩,⟨a174,r178⟩,rfl⟩ agentOw_ok (nodup2 nd171 nd176 sb172 sb177 (Dj.ap Ro136_o139)) (sub2 sb172 sb177) (all2 q161 q162)
    obtain ⟨_,m181,hm⟩:=bnd hm
    have hk182:=mustP_some m181
    refine RL.appendN agentOw_ok agentOw_one (by decide) app_impl_Agent rfl rfl rfl Guz45_0 G179 (Ap.symm z168) T.size hk182 (fun v183 w184 bs185 G186 hgr187 hbl188 hnb189=>?_)
    have szw184:=hbl188.size
    have z191:=Ap.app hnb189 Noz45_0_ob4 z163 (one_hi Bz44.lt)
    have z192:=Ap.app hnb189 Noz45_0_ob15 z164 (one_hi Bz45.lt)
    have z193:=Ap.app hnb189 Noz45_0_ob145 z165 (one_hi B151.lt)
    have z194:=Ap.app hnb189 Doz45_0_o9 z166 (OwF.fhi G8)
    have z195:=Ap.app hnb189 Doz45_0_oz44_0 z167 (OwN.hi Guz44_0)
    have Bz44:=Blk.kept Bz44 hgr187 (OwN.neB Guz45_0 Noz45_0_ob4)
    have Bz45:=Blk.kept Bz45 hgr187 (OwN.neB Guz45_0 Noz45_0_ob15)
    have B151:=Blk.kept B151 hgr187 (OwN.neB Guz45_0 Noz45_0_ob145)
    have G8:=OwF.keptD G8 hgr187 (OwN.dj Guz45_0 Doz45_0_o9)
    have Guz44_0:=OwN.grown agentOw_ok Guz44_0 hgr187 (OwN.apRow Guz45_0 Doz45_0_oz44_0)
    have T:=T.trans hbl188
    refine RL.y rfl (Y.fieldAddr (off:=0) s5_1 (by kernel_rfl)) ?_
    obtain ⟨A196,c197,rfl⟩:=OwN.form G186
    have qbA196:=OwN.bound G186
    refine RL.store (v:=.slice A196 ((z45.agents ++ [y132.1]).length) c197) (cs':=#[.slice A196 ((z45.agents ++ [y132.1]).length) c197]) rfl rfl rfl Bz45 (by kernel_rfl) (by rfl) (by rfl) (by rfl) (fun w198 B199 ho200=>?_)
    have szw198:=ho200.size
    have Bz44:=Bz44.only_ ho200 (by intro hin; simp at hin; exact Eob15_ob4 hin)
    have B151:=B151.only_ ho200 (by intro hin; simp at hin; exact Eob145_ob15.symm hin)
    have G8:=OwF.only G8 ho200 No9_ob15
    have Guz44_0:=OwN.only agentOw_ok Guz44_0 ho200 (Ap.one Noz44_0_ob15)
    have G186:=OwN.only agentOw_ok G186 ho200 (Ap.one z192)
    have T:=T.trans (ho200.below (by first|(simp; done)|(simp; omega)))
    refine RL.nil ?_
    refine blk_n (then_n ?_)
    refine wp_rs rfl<|RQ.y rfl (Y.move (v:=.int .i64 i43) s6_1)<|RQ.y rfl (Y.binI rfl rfl (binI_add (m:=i43) (by omega)))<|RQ.y rfl (Y.assign (v:=.int .i64 (i43+1)) rfl)<|RQ.nil ?_
    exact (then_n ⟨g,_,Nat.lt_succ_self _,rfl,⟨(i43+1),z44,(⟨(z45.agents ++ [y132.1])⟩:DNet),(uz44_0),bsz44_0,(.slice A196 ((z45.agents ++ [y132.1]).length) c197),bs185,s0_1,s2_1,s4_1,s5_1,rfl,(by omega),Bz44,Guz44_0,B199,G186,Doz44_0_o9,Noz44_0_ob4,Noz44_0_ob15,z195,z194,z191,z192,G8,T,(by rw [← hrec1]; exact hm)⟩⟩)
   replace hm:=cT c129 hm
   refine cond_t rfl (vb rfl c129)<|wp_seq<|wp_rl rfl<|RL.y rfl (Y.build0 (cells:=#[.slice none 0 0])  (by kernel_rfl) (by kernel_rfl)) ?_
   refine RL.store (v:=.agg #[.slice none 0 0]) (cs':=#[.slice none 0 0]) rfl s2_1 rfl Bz44 (by kernel_rfl) (by rfl) (by rfl) (by rfl) (fun w201 B202 ho203=>?_)
   have szw201:=ho203.size
   have Bz45:=Bz45.only_ ho203 (by intro hin; simp at hin; exact Eob15_ob4.symm hin)
   have G8:=OwF.only G8 ho203 Zo9_ob4
   have Guz44_0:=OwN.only agentOw_ok Guz44_0 ho203 (Ap.one Noz44_0_ob4)
   have Guz45_0:=OwN.only agentOw_ok Guz45_0 ho203 (Ap.one Noz45_0_ob4)
   have T:=T.trans (ho203.below (by first|(simp; done)|(simp; omega)))
   refine RL.y rfl (Y.assign (v:=.int .i64 6) rfl)<|RL.nil<|then_n<|wp_ret ?_
   obtain rfl:=sj hm
   exact (then_r (then_r (blk_r (then_r (then_r (hit_r (blk_r (then_r (retct (cs:=[.slice none 0 0]) rfl rfl s2_1 rfl (by kernel_rfl) (blkCells B202) ⟨⟨_,_,rfl,OwN.nil⟩,T⟩)))))))))
  replace hm:=cT c126 hm
  iterate 3 refine RQ.skip (wantN (dj:=27) rfl (vb rfl c126) rfl) ?_
  refine RQ.y rfl (Y.pick (b:=true) (v:=.bool true) (vb rfl c126) rfl)<|RQ.nil<|then_n<|cond_t rfl rfl<|wp_seq<|wp_rl rfl<|RL.y rfl (Y.build0 (cells:=#[.slice none 0 0])  (by kernel_rfl) (by kernel_rfl)) ?_
  refine RL.store (v:=.agg #[.slice none 0 0]) (cs':=#[.slice none 0 0]) rfl s2_1 rfl Bz44 (by kernel_rfl) (by rfl) (by rfl) (by rfl) (fun w204 B205 ho206=>?_)
  have szw204:=ho206.size
  have Bz45:=Bz45.only_ ho206 (by intro hin; simp at hin; exact Eob15_ob4.symm hin)
  have G8:=OwF.only G8 ho206 Zo9_ob4
  have Guz44_0:=OwN.only agentOw_ok Guz44_0 ho206 (Ap.one Noz44_0_ob4)
  have Guz45_0:=OwN.only agentOw_ok Guz45_0 ho206 (Ap.one Noz45_0_ob4)
  have T:=T.trans (ho206.below (by first|(simp; done)|(simp; omega)))
  refine RL.y rfl (Y.assign (v:=.int .i64 6) rfl)<|RL.nil<|then_n<|wp_ret ?_
  obtain rfl:=sj hm
  exact (then_r (then_r (blk_r (then_r (then_r (hit_r (blk_r (then_r (retct (cs:=[.slice none 0 0]) rfl rfl s2_1 rfl (by kernel_rfl) (blkCells B205) ⟨⟨_,_,rfl,OwN.nil⟩,T⟩)))))))))
end
end Go.Proofs.YtkfmlehhbanopaaGreatDoor
