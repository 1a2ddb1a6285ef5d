/- Lemmas of the proof of CheckTypedBook, part 5. No condition. -/
import Derived.Test.YtpbobilkejblgaaGreatZCheckTypedBook4
namespace Go.Proofs.YtpbobilkejblgaaGreat
set_option linter.unusedVariables false
set_option linter.unusedSimpArgs false
section
open Go.RowKit
set_option maxRecDepth 100000
noncomputable def m_impl_isSmall (d0:Int):Option Bool:=
  (bif (decide (d0 ≥ 97)) then some (decide (d0≤122)) else some false)
set_option maxHeartbeats 2000000 in
theorem c_m_impl_isSmall (d0:Int) (r:Bool) (hm:m_impl_isSmall d0=some r)  (w:World)  :
    Calls Tryz.prog 265 #[.int .u8 d0] w fun e w'=>e=.returned (.bool r)∧Below w.heap.size w w':=by
  have T:=Below.refl w.heap.size w
  unfold m_impl_isSmall at hm
  refine enter 9 Tryz.func265 rfl rfl rfl ?_
  intro f hf
  have s0:f 0=.int .u8 d0:=hf 0 _ rfl
  refine wp_seq<|wp_rs rfl<|RQ.y rfl (Y.assign (v:=.bool false) rfl)<|RQ.nil<|then_n<|wp_seq<|wp_rs rfl<|RQ.y rfl (Y.move (v:=.int .u8 d0) s0)<|RQ.y rfl (Y.binI (v:=.bool (decide (d0 ≥ 97))) rfl rfl rfl)<|RQ.y rfl (Y.move (v:=.bool (decide (d0 ≥ 97))) rfl) ?_
  rcases bcases (decide (d0 ≥ 97)) with c1|c1
  ·replace hm:=cF c1 hm
   have pc1:=of_decide_eq_false c1
   refine RQ.skip (wantN (dj:=5) rfl (vb rfl c1) rfl)<|RQ.skip (wantN (dj:=5) rfl (vb rfl c1) rfl)<|RQ.y rfl (Y.pick (b:=false) (v:=.bool false) (vb rfl c1) rfl)<|RQ.y rfl (Y.assign (v:=.bool false) rfl)<|RQ.nil<|then_n<|wp_ret ?_
   obtain rfl:=sj hm
   exact (ret1 rfl rfl rfl ⟨rfl,T⟩)
  replace hm:=cT c1 hm
  have pc1:=of_decide_eq_true c1
  refine RQ.y (wantT (dj:=5) rfl (vb rfl c1)) (Y.move (v:=.int .u8 d0) s0)<|RQ.y (wantT (dj:=5) rfl (vb rfl c1)) (Y.binI (v:=.bool (decide (d0≤122))) rfl rfl rfl)<|RQ.y rfl (Y.pick (b:=true) (v:=.bool (decide (d0≤122))) (vb rfl c1) rfl)<|RQ.y rfl (Y.assign (v:=.bool (decide (d0≤122))) rfl)<|RQ.nil<|then_n<|wp_ret ?_
  obtain rfl:=sj hm
  exact (ret1 rfl rfl rfl ⟨rfl,T⟩)
noncomputable def m_impl_isCapital (d0:Int):Option Bool:=
  (bif (decide (d0 ≥ 65)) then some (decide (d0≤90)) else some false)
set_option maxHeartbeats 2000000 in
theorem c_m_impl_isCapital (d0:Int) (r:Bool) (hm:m_impl_isCapital d0=some r)  (w:World)  :
    Calls Tryz.prog 203 #[.int .u8 d0] w fun e w'=>e=.returned (.bool r)∧Below w.heap.size w w':=by
  have T:=Below.refl w.heap.size w
  unfold m_impl_isCapital at hm
  refine enter 9 Tryz.func203 rfl rfl rfl ?_
  intro f hf
  have s0:f 0=.int .u8 d0:=hf 0 _ rfl
  refine wp_seq<|wp_rs rfl<|RQ.y rfl (Y.assign (v:=.bool false) rfl)<|RQ.nil<|then_n<|wp_seq<|wp_rs rfl<|RQ.y rfl (Y.move (v:=.int .u8 d0) s0)<|RQ.y rfl (Y.binI (v:=.bool (decide (d0 ≥ 65))) rfl rfl rfl)<|RQ.y rfl (Y.move (v:=.bool (decide (d0 ≥ 65))) rfl) ?_
  rcases bcases (decide (d0 ≥ 65)) with c1|c1
  ·replace hm:=cF c1 hm
   have pc1:=of_decide_eq_false c1
   refine RQ.skip (wantN (dj:=5) rfl (vb rfl c1) rfl)<|RQ.skip (wantN (dj:=5) rfl (vb rfl c1) rfl)<|RQ.y rfl (Y.pick (b:=false) (v:=.bool false) (vb rfl c1) rfl)<|RQ.y rfl (Y.assign (v:=.bool false) rfl)<|RQ.nil<|then_n<|wp_ret ?_
   obtain rfl:=sj hm
   exact (ret1 rfl rfl rfl ⟨rfl,T⟩)
  replace hm:=cT c1 hm
  have pc1:=of_decide_eq_true c1
  refine RQ.y (wantT (dj:=5) rfl (vb rfl c1)) (Y.move (v:=.int .u8 d0) s0)<|RQ.y (wantT (dj:=5) rfl (vb rfl c1)) (Y.binI (v:=.bool (decide (d0≤90))) rfl rfl rfl)<|RQ.y rfl (Y.pick (b:=true) (v:=.bool (decide (d0≤90))) (vb rfl c1) rfl)<|RQ.y rfl (Y.assign (v:=.bool (decide (d0≤90))) rfl)<|RQ.nil<|then_n<|wp_ret ?_
  obtain rfl:=sj hm
  exact (ret1 rfl rfl rfl ⟨rfl,T⟩)
noncomputable def m_impl_isDigit (d0:Int):Option Bool:=
  (bif (decide (d0 ≥ 48)) then some (decide (d0≤57)) else some false)
set_option maxHeartbeats 2000000 in
theorem c_m_impl_isDigit (d0:Int) (r:Bool) (hm:m_impl_isDigit d0=some r)  (w:World)  :
    Calls Tryz.prog 236 #[.int .u8 d0] w fun e w'=>e=.returned (.bool r)∧Below w.heap.size w w':=by
  have T:=Below.refl w.heap.size w
  unfold m_impl_isDigit at hm
  refine enter 9 Tryz.func236 rfl rfl rfl ?_
  intro f hf
  have s0:f 0=.int .u8 d0:=hf 0 _ rfl
  refine wp_seq<|wp_rs rfl<|RQ.y rfl (Y.assign (v:=.bool false) rfl)<|RQ.nil<|then_n<|wp_seq<|wp_rs rfl<|RQ.y rfl (Y.move (v:=.int .u8 d0) s0)<|RQ.y rfl (Y.binI (v:=.bool (decide (d0 ≥ 48))) rfl rfl rfl)<|RQ.y rfl (Y.move (v:=.bool (decide (d0 ≥ 48))) rfl) ?_
  rcases bcases (decide (d0 ≥ 48)) with c1|c1
  ·replace hm:=cF c1 hm
   have pc1:=of_decide_eq_false c1
   refine RQ.skip (wantN (dj:=5) rfl (vb rfl c1) rfl)<|RQ.skip (wantN (dj:=5) rfl (vb rfl c1) rfl)<|RQ.y rfl (Y.pick (b:=false) (v:=.bool false) (vb rfl c1) rfl)<|RQ.y rfl (Y.assign (v:=.bool false) rfl)<|RQ.nil<|then_n<|wp_ret ?_
   obtain rfl:=sj hm
   exact (ret1 rfl rfl rfl ⟨rfl,T⟩)
  replace hm:=cT c1 hm
  have pc1:=of_decide_eq_true c1
  refine RQ.y (wantT (dj:=5) rfl (vb rfl c1)) (Y.move (v:=.int .u8 d0) s0)<|RQ.y (wantT (dj:=5) rfl (vb rfl c1)) (Y.binI (v:=.bool (decide (d0≤57))) rfl rfl rfl)<|RQ.y rfl (Y.pick (b:=true) (v:=.bool (decide (d0≤57))) (vb rfl c1) rfl)<|RQ.y rfl (Y.assign (v:=.bool (decide (d0≤57))) rfl)<|RQ.nil<|then_n<|wp_ret ?_
  obtain rfl:=sj hm
  exact (ret1 rfl rfl rfl ⟨rfl,T⟩)
noncomputable def m_impl_isWordByte (d0:Int):Option Bool:=
  ((m_impl_isSmall d0).bind fun y1=>(bif y1 then some true else ((m_impl_isCapital d0).bind fun y4=>(bif y4 then some true else ((m_impl_isDigit d0).bind fun y7=>some y7)))))
set_option maxHeartbeats 2000000 in
theorem c_m_impl_isWordByte (d0:Int) (r:Bool) (hm:m_impl_isWordByte d0=some r)  (w:World)  :
    Calls Tryz.prog 238 #[.int .u8 d0] w fun e w'=>e=.returned (.bool r)∧Below w.heap.size w w':=by
  have T:=Below.refl w.heap.size w
  unfold m_impl_isWordByte at hm
  refine enter 13 Tryz.func238 rfl rfl rfl ?_
  intro f hf
  have s0:f 0=.int .u8 d0:=hf 0 _ rfl
  refine wp_seq<|wp_rs rfl<|RQ.y rfl (Y.assign (v:=.bool false) rfl)<|RQ.nil<|then_n<|wp_seq<|wp_rb rfl<|RQ.y rfl (Y.move (v:=.int .u8 d0) s0) ?_
  obtain ⟨y1,e2,hm⟩:=bnd hm
  refine RQ.call rfl (am1 rfl) (by kernel_rfl) (v:=.bool y1) (bel (K:=fun _=>True) fun w' hb'=>(c_m_impl_isSmall d0 _ e2  w' ))<|RQ.y rfl (Y.move (v:=.bool y1) rfl) ?_
  rcases bcases y1 with c3|c3
  ·replace hm:=cF c3 hm
   refine RQ.y (wantT (dj:=5) rfl (vb rfl c3)) (Y.move (v:=.int .u8 d0) s0) ?_
   obtain ⟨y4,e5,hm⟩:=bnd hm
   refine RQ.call (wantT (dj:=5) rfl (vb rfl c3)) (am1 rfl) (by kernel_rfl) (v:=.bool y4) (bel (K:=fun _=>True) fun w' hb'=>(c_m_impl_isCapital d0 _ e5  w' ))<|RQ.y rfl (Y.pick (b:=false) (v:=.bool y4) (vb rfl c3) rfl)<|RQ.y rfl (Y.move (v:=.bool y4) rfl) ?_
   rcases bcases y4 with c6|c6
   ·replace hm:=cF c6 hm
    refine RQ.y (wantT (dj:=9) rfl (vb rfl c6)) (Y.move (v:=.int .u8 d0) s0) ?_
    obtain ⟨y7,e8,hm⟩:=bnd hm
    refine RQ.call (wantT (dj:=9) rfl (vb rfl c6)) (am1 rfl) (by kernel_rfl) (v:=.bool y7) (bel (K:=fun _=>True) fun w' hb'=>(c_m_impl_isDigit d0 _ e8  w' ))<|RQ.y rfl (Y.pick (b:=false) (v:=.bool y7) (vb rfl c6) rfl)<|RQ.y rfl (Y.assign (v:=.bool y7) rfl)<|RQ.nil ?_
    intro w9 hb10
    have szw9:=hb10.size
    have T:=Tt T hb10
    refine then_n<|wp_ret ?_
    obtain rfl:=sj hm
    exact (ret1 rfl rfl rfl ⟨rfl,T⟩)
   replace hm:=cT c6 hm
   refine RQ.skip (wantN (dj:=9) rfl (vb rfl c6) rfl)<|RQ.skip (wantN (dj:=9) rfl (vb rfl c6) rfl)<|RQ.y rfl (Y.pick (b:=true) (v:=.bool true) (vb rfl c6) rfl)<|RQ.y rfl (Y.assign (v:=.bool true) rfl)<|RQ.nil ?_
   intro w11 hb12
   have szw11:=hb12.size
   have T:=Tt T hb12
   refine then_n<|wp_ret ?_
   obtain rfl:=sj hm
   exact (ret1 rfl rfl rfl ⟨rfl,T⟩)
  replace hm:=cT c3 hm
  refine RQ.skip (wantN (dj:=5) rfl (vb rfl c3) rfl)<|RQ.skip (wantN (dj:=5) rfl (vb rfl c3) rfl)<|RQ.y rfl (Y.pick (b:=true) (v:=.bool true) (vb rfl c3) rfl)<|RQ.y rfl (Y.move (v:=.bool true) rfl)<|RQ.skip (wantN (dj:=9) rfl rfl rfl)<|RQ.skip (wantN (dj:=9) rfl rfl rfl)<|RQ.y rfl (Y.pick (b:=true) (v:=.bool true) rfl rfl)<|RQ.y rfl (Y.assign (v:=.bool true) rfl)<|RQ.nil ?_
  intro w13 hb14
  have szw13:=hb14.size
  have T:=Tt T hb14
  refine then_n<|wp_ret ?_
  obtain rfl:=sj hm
  exact (ret1 rfl rfl rfl ⟨rfl,T⟩)
noncomputable def m_slices_Index_string_string_A1:Option Int:=
  some (-1)
noncomputable def m_slices_Index_string_string_B1 (d0:List ByteArray) (d1:ByteArray) (rec1:Int→Option Int) (K1:Option Int) (i2:Int):Option Int:=
  (bif (decide (i2 < (d0.length:Int))) then ((getI d0 i2).bind fun x5=>(bif (d1.toList==x5.toList) then some i2 else (rec1 (i2+1)))) else (K1))
noncomputable def m_slices_Index_string_string_L1 (d0:List ByteArray) (d1:ByteArray) (K1:Option Int):Nat→Int→Option Int
  |0,_=>none
  |g+1,i2=>m_slices_Index_string_string_B1 d0 d1 (m_slices_Index_string_string_L1 d0 d1 K1 g) K1 i2
noncomputable def m_slices_Index_string_string (d0:List ByteArray) (d1:ByteArray):Option Int:=
  (m_slices_Index_string_string_L1 d0 d1 m_slices_Index_string_string_A1 (d0.length+1) 0)
set_option maxHeartbeats 2000000 in
theorem c_m_slices_Index_string_string (d0:List ByteArray) (d1:ByteArray) (r:Int) (hm:m_slices_Index_string_string d0 d1=some r) (v0:Value) (w:World) (hv0:Sl strRd 1 w v0 d0) :
    Calls Tryz.prog 275 #[v0,.string d1] w fun e w'=>e=.returned (.int .i64 r)∧Below w.heap.size w w':=by
  obtain ⟨Aa0,na0,ca0,rfl,ha0,ra0⟩:=hv0
  have ea0:=ha0.len; subst ea0
  have qa0:=len_le ra0
  have T:=Below.refl w.heap.size w
  unfold m_slices_Index_string_string at hm
  refine enter 19 Tryz.func275 rfl rfl rfl ?_
  intro f hf
  have s0:f 0=.slice Aa0 d0.length ca0:=hf 0 _ rfl
  have s1:f 1=.string d1:=hf 1 _ rfl
  refine wp_seq<|wp_rs rfl<|RQ.y rfl (Y.assign (v:=.int .i64 0) rfl)<|RQ.nil<|then_n<|wp_seq<|wp_seq<|wp_rs rfl<|RQ.y rfl (Y.move (v:=.slice Aa0 d0.length ca0) s0)<|RQ.y rfl (Y.len (by kernel_rfl) rfl)<|RQ.y rfl (Y.move (v:=.int .i64 0) rfl)<|RQ.nil<|then_n<|wp_block ?_
  obtain ⟨K1,hK1,hm⟩ :∃K,K=m_slices_Index_string_string_A1∧m_slices_Index_string_string_L1 d0 d1 K (d0.length+1) 0=some r:=⟨_,rfl,hm⟩
  refine wp_loopX (fun g f w'=>∃(i2:Int),f 0=.slice Aa0 d0.length ca0∧f 1=.string d1∧f 7=.int .i64 (d0.length:Int)∧f 8=.int .i64 i2∧0≤i2∧Below w.heap.size w w'∧m_slices_Index_string_string_L1 d0 d1 K1 g i2=some r) 0 (fun f w'=>Below w.heap.size w w'∧m_slices_Index_string_string_A1  = some r) (d0.length+1) ⟨0,s0,s1,rfl,rfl,(by omega),T,hm⟩ ?_ ?_
  ·rintro f w1 ⟨T,hm⟩
   unfold m_slices_Index_string_string_A1 at hm
   refine blk_hit (then_n ?_)
   refine wp_seq<|wp_rs rfl<|RQ.y rfl (Y.assign (v:=.int .i64 (-1)) rfl)<|RQ.nil<|then_n<|wp_ret ?_
   obtain rfl:=sj hm
   exact (ret1 rfl rfl rfl ⟨rfl,T⟩)
  rintro g f w3 ⟨i2,s0_1,s1_1,s7_1,s8_1,nn8_1,T,hm⟩
  rcases g with _|g
  ·simp only [m_slices_Index_string_string_L1] at hm; cases hm
  obtain ⟨rec1,hrec1,hm⟩ :∃z,z=m_slices_Index_string_string_L1 d0 d1 K1 g∧m_slices_Index_string_string_B1 d0 d1 z K1 i2=some r:=⟨_,rfl,hm⟩
  unfold m_slices_Index_string_string_B1 at hm
  refine wp_seq<|wp_rs rfl<|RQ.y rfl (Y.binI (v:=.bool (decide (i2 < (d0.length:Int)))) s8_1 s7_1 rfl)<|RQ.nil<|then_n<|wp_seq ?_
  rcases bcases (decide (i2 < (d0.length:Int))) with c4|c4
  ·replace hm:=cF c4 hm
   have pc4:=of_decide_eq_false c4
   refine cond_f rfl (vb rfl c4)<|wp_exit ?_
   exact (then_x (then_x (hit_x ⟨_,rfl,⟨T,(by rw [hK1] at hm; exact hm)⟩⟩)))
  replace hm:=cT c4 hm
  have pc4:=of_decide_eq_true c4
  refine cond_t rfl (vb rfl c4)<|wp_skip<|then_n<|wp_seq<|wp_block<|wp_seq<|wp_rs rfl<|RQ.y rfl (Y.move (v:=.int .i64 i2) s8_1)<|RQ.y rfl (Y.assign (v:=.int .i64 i2) rfl)<|RQ.nil<|then_n<|wp_seq<|wp_rs rfl<|RQ.y rfl (Y.move (v:=.string d1) s1_1)<|RQ.y rfl (Y.move (v:=.slice Aa0 d0.length ca0) s0_1)<|RQ.y rfl (Y.move (v:=.int .i64 i2) rfl) ?_
  obtain ⟨x5,hx8,hm⟩:=bnd hm
  obtain ⟨k6,hk9,hl10,hx8⟩:=getI_some hx8
  obtain ⟨b12,o13,rfl,hbb12⟩:=ha0.addr (by omega)
  obtain ⟨cs7,hRcs7,hc11⟩:=ha0.el hx8
  have hScs7:=hRcs7
  obtain rfl:=hRcs7
  refine RQ.y rfl (Y.indexAddr (m:=k6) (sz:=1) rfl rfl hk9 hl10 (by kernel_rfl))<|RQ.y rfl (Y.load (v:=.string x5) rfl (by kernel_rfl) (eqC (cellT T (hc11 0 _ rfl))))<|RQ.y rfl (Y.eqStr rfl rfl (by kernel_rfl))<|RQ.nil<|then_n ?_
  rcases bcases (d1.toList==x5.toList) with c14|c14
  ·replace hm:=cF c14 hm
   refine cond_f rfl (vb rfl c14)<|wp_skip ?_
   refine blk_n (then_n ?_)
   refine wp_rs rfl<|RQ.y rfl (Y.binI s8_1 rfl (binI_add (m:=i2) (by omega)))<|RQ.y rfl (Y.move (v:=.int .i64 (i2+1)) rfl)<|RQ.nil ?_
   exact (then_n ⟨g,_,Nat.lt_succ_self _,rfl,⟨(i2+1),s0_1,s1_1,s7_1,rfl,(by omega),T,(by rw [← hrec1]; exact hm)⟩⟩)
  replace hm:=cT c14 hm
  refine cond_t rfl (vb rfl c14)<|wp_seq<|wp_rs rfl<|RQ.y rfl (Y.move (v:=.int .i64 i2) rfl)<|RQ.y rfl (Y.assign (v:=.int .i64 i2) rfl)<|RQ.nil<|then_n<|wp_ret ?_
  obtain rfl:=sj hm
  exact (blk_r (then_r (then_r (hit_r (blk_r (then_r (ret1 rfl rfl rfl ⟨rfl,T⟩)))))))
noncomputable def m_slices_Contains_string_string (d0:List ByteArray) (d1:ByteArray):Option Bool:=
  ((m_slices_Index_string_string d0 d1).bind fun y1=>some (decide (y1 ≥ 0)))
set_option maxHeartbeats 2000000 in
theorem c_m_slices_Contains_string_string (d0:List ByteArray) (d1:ByteArray) (r:Bool) (hm:m_slices_Contains_string_string d0 d1=some r) (v0:Value) (w:World) (hv0:Sl strRd 1 w v0 d0) :
    Calls Tryz.prog 264 #[v0,.string d1] w fun e w'=>e=.returned (.bool r)∧Below w.heap.size w w':=by
  obtain ⟨Aa0,na0,ca0,rfl,ha0,ra0⟩:=hv0
  have ea0:=ha0.len; subst ea0
  have qa0:=len_le ra0
  have T:=Below.refl w.heap.size w
  unfold m_slices_Contains_string_string at hm
  refine enter 9 Tryz.func264 rfl rfl rfl ?_
  intro f hf
  have s0:f 0=.slice Aa0 d0.length ca0:=hf 0 _ rfl
  have s1:f 1=.string d1:=hf 1 _ rfl
  refine wp_seq<|wp_rs rfl<|RQ.y rfl (Y.assign (v:=.bool false) rfl)<|RQ.nil<|then_n<|wp_seq<|wp_rb rfl<|RQ.y rfl (Y.move (v:=.slice Aa0 d0.length ca0) s0)<|RQ.y rfl (Y.move (v:=.string d1) s1) ?_
  obtain ⟨y1,e2,hm⟩:=bnd hm
  refine RQ.call rfl (am2 rfl rfl) (by kernel_rfl) (v:=.int .i64 y1) (bel (K:=fun _=>True) fun w' hb'=>(c_m_slices_Index_string_string d0 d1 _ e2 _ w' (slArg strRd_ok ha0 ra0 (Tt T hb'))))<|RQ.y rfl (Y.binI (v:=.bool (decide (y1 ≥ 0))) rfl rfl rfl)<|RQ.y rfl (Y.assign (v:=.bool (decide (y1 ≥ 0))) rfl)<|RQ.nil ?_
  intro w3 hb4
  have szw3:=hb4.size
  have T:=Tt T hb4
  refine then_n<|wp_ret ?_
  obtain rfl:=sj hm
  exact (ret1 rfl rfl rfl ⟨rfl,T⟩)
noncomputable def m_impl_IsKeyword (d0:ByteArray):Option Bool:=
  ((m_slices_Contains_string_string ([(ByteArray.mk #[100,97,116,97]),(ByteArray.mk #[100,101,102]),(ByteArray.mk #[108,101,116]),(ByteArray.mk #[105,110]),(ByteArray.mk #[109,97,116,99,104]),(ByteArray.mk #[105,102]),(ByteArray.mk #[116,104,101,110]),(ByteArray.mk #[101,108,115,101])]) d0).bind fun y7=>some y7)
set_option maxHeartbeats 2000000 in
theorem c_m_impl_IsKeyword (d0:ByteArray) (r:Bool) (hm:m_impl_IsKeyword d0=some r)  (w:World)  :
    Calls Tryz.prog 237 #[.string d0] w fun e w'=>e=.returned (.bool r)∧Below w.heap.size w w':=by
  have T:=Below.refl w.heap.size w
  unfold m_impl_IsKeyword at hm
  refine enter 6 Tryz.func237 rfl rfl rfl ?_
  intro f hf
  have s0:f 0=.string d0:=hf 0 _ rfl
  refine wp_seq<|wp_rs rfl<|RQ.y rfl (Y.assign (v:=.bool false) rfl)<|RQ.nil<|then_n<|wp_seq<|wp_rl rfl ?_
  refine RL.bslice (e:=9) (cells:=#[.string (ByteArray.mk #[100,97,116,97]),.string (ByteArray.mk #[100,101,102]),.string (ByteArray.mk #[108,101,116]),.string (ByteArray.mk #[105,110]),.string (ByteArray.mk #[109,97,116,99,104]),.string (ByteArray.mk #[105,102]),.string (ByteArray.mk #[116,104,101,110]),.string (ByteArray.mk #[101,108,115,101])]) rfl (pm8 rfl rfl rfl rfl rfl rfl rfl rfl) (by kernel_rfl) (fun w1 B2 hb3 szw1=>?_)
  have ZB2:w.heap.size≤w.heap.size:=T.size
  have T:=Tt T hb3
  have G5:=OwF.lit (enc:=encS) (sz:=1) (xs:=[(ByteArray.mk #[100,97,116,97]),(ByteArray.mk #[100,101,102]),(ByteArray.mk #[108,101,116]),(ByteArray.mk #[105,110]),(ByteArray.mk #[109,97,116,99,104]),(ByteArray.mk #[105,102]),(ByteArray.mk #[116,104,101,110]),(ByteArray.mk #[101,108,115,101])]) B2 ZB2 rfl rfl rfl rfl
  refine RL.y rfl (Y.move (v:=.string d0) s0) ?_
  obtain ⟨y7,e8,hm⟩:=bnd hm
  refine RL.call rfl (am2 rfl rfl) (by kernel_rfl) ((c_m_slices_Contains_string_string ([(ByteArray.mk #[100,97,116,97]),(ByteArray.mk #[100,101,102]),(ByteArray.mk #[108,101,116]),(ByteArray.mk #[105,110]),(ByteArray.mk #[109,97,116,99,104]),(ByteArray.mk #[105,102]),(ByteArray.mk #[116,104,101,110]),(ByteArray.mk #[101,108,115,101])]) d0 _ e8 _ _ (OwF.arg fS G5)).mono ?_)
  rintro _ w9 ⟨rfl,hb10⟩
  refine ⟨_,rfl,?_⟩
  have szw9:=hb10.size
  have G5:=OwF.below G5 hb10
  have T:=Tt T hb10
  refine RL.y rfl (Y.assign (v:=.bool y7) rfl)<|RL.nil<|then_n<|wp_ret ?_
  obtain rfl:=sj hm
  exact (ret1 rfl rfl rfl ⟨rfl,T⟩)
noncomputable def m_impl_IsName_A1:Option Bool:=
  some true
noncomputable def m_impl_IsName_B1 (d0:ByteArray) (rec1:Int→Option Bool) (K1:Option Bool) (i14:Int):Option Bool:=
  (bif (decide (i14 < (d0.size:Int))) then ((getB d0 i14).bind fun x17=>((m_impl_isWordByte x17).bind fun y19=>(bif y19 then (rec1 (i14+1)) else some false))) else (K1))
noncomputable def m_impl_IsName_L1 (d0:ByteArray) (K1:Option Bool):Nat→Int→Option Bool
  |0,_=>none
  |g+1,i14=>m_impl_IsName_B1 d0 (m_impl_IsName_L1 d0 K1 g) K1 i14
noncomputable def m_impl_IsName (d0:ByteArray):Option Bool:=
  (bif (decide ((d0.size:Int) < 1)) then some false else (bif (decide ((d0.size:Int) > 12)) then some false else ((getB d0 0).bind fun x3=>((m_impl_isDigit x3).bind fun y5=>(bif y5 then some false else ((m_impl_IsKeyword d0).bind fun y8=>(bif y8 then some false else (m_impl_IsName_L1 d0 m_impl_IsName_A1 (d0.size+1) 0))))))))
set_option maxHeartbeats 2000000 in
theorem c_m_impl_IsName (d0:ByteArray) (r:Bool) (hm:m_impl_IsName d0=some r)  (w:World)  :
    Calls Tryz.prog 202 #[.string d0] w fun e w'=>e=.returned (.bool r)∧Below w.heap.size w w':=by
  have T:=Below.refl w.heap.size w
  unfold m_impl_IsName at hm
  refine enter 32 Tryz.func202 rfl rfl rfl ?_
  intro f hf
  have s0:f 0=.string d0:=hf 0 _ rfl
  refine wp_seq<|wp_rs rfl<|RQ.y rfl (Y.assign (v:=.bool false) rfl)<|RQ.nil<|then_n<|wp_seq<|wp_seq<|wp_rb rfl<|RQ.y rfl (Y.move (v:=.string d0) s0)<|RQ.y rfl (Y.lenS (by kernel_rfl) rfl)<|RQ.y rfl (Y.binI (v:=.bool (decide ((d0.size:Int) < 1))) rfl rfl rfl)<|RQ.y rfl (Y.move (v:=.bool (decide ((d0.size:Int) < 1))) rfl) ?_
  rcases bcases (decide ((d0.size:Int) < 1)) with c1|c1
  ·replace hm:=cF c1 hm
   have pc1:=of_decide_eq_false c1
   refine RQ.y (wantT (dj:=7) rfl (vb rfl c1)) (Y.move (v:=.string d0) s0)<|RQ.y (wantT (dj:=7) rfl (vb rfl c1)) (Y.lenS (by kernel_rfl) rfl)<|RQ.y (wantT (dj:=7) rfl (vb rfl c1)) (Y.binI (v:=.bool (decide ((d0.size:Int) > 12))) rfl rfl rfl)<|RQ.y rfl (Y.pick (b:=false) (v:=.bool (decide ((d0.size:Int) > 12))) (vb rfl c1) rfl)<|RQ.y rfl (Y.move (v:=.bool (decide ((d0.size:Int) > 12))) rfl) ?_
   rcases bcases (decide ((d0.size:Int) > 12)) with c2|c2
   ·replace hm:=cF c2 hm
    have pc2:=of_decide_eq_false c2
    refine RQ.y (wantT (dj:=12) rfl (vb rfl c2)) (Y.move (v:=.string d0) s0) ?_
    obtain ⟨x3,e4,hm⟩:=bnd hm
    refine RQ.y (wantT (dj:=12) rfl (vb rfl c2)) (Y.idxStr (b:=x3) rfl rfl (by kernel_rfl) e4) ?_
    obtain ⟨y5,e6,hm⟩:=bnd hm
    refine RQ.call (wantT (dj:=12) rfl (vb rfl c2)) (am1 rfl) (by kernel_rfl) (v:=.bool y5) (bel (K:=fun _=>True) fun w' hb'=>(c_m_impl_isDigit x3 _ e6  w' ))<|RQ.y rfl (Y.pick (b:=false) (v:=.bool y5) (vb rfl c2) rfl)<|RQ.y rfl (Y.move (v:=.bool y5) rfl) ?_
    rcases bcases y5 with c7|c7
    ·replace hm:=cF c7 hm
     refine RQ.y (wantT (dj:=17) rfl (vb rfl c7)) (Y.move (v:=.string d0) s0) ?_
     obtain ⟨y8,e9,hm⟩:=bnd hm
     refine RQ.call (wantT (dj:=17) rfl (vb rfl c7)) (am1 rfl) (by kernel_rfl) (v:=.bool y8) (bel (K:=fun _=>True) fun w' hb'=>(c_m_impl_IsKeyword d0 _ e9  w' ))<|RQ.y rfl (Y.pick (b:=false) (v:=.bool y8) (vb rfl c7) rfl)<|RQ.nil ?_
     intro w10 hb11
     have szw10:=hb11.size
     have T:=Tt T hb11
     refine then_n ?_
     rcases bcases y8 with c12|c12
     ·replace hm:=cF c12 hm
      refine cond_f rfl (vb rfl c12)<|wp_skip<|then_n<|wp_seq<|wp_seq<|wp_rs rfl<|RQ.y rfl (Y.move (v:=.string d0) s0)<|RQ.y rfl (Y.lenS (by kernel_rfl) rfl)<|RQ.y rfl (Y.move (v:=.int .i64 0) rfl)<|RQ.nil<|then_n<|wp_block ?_
      obtain ⟨K1,hK1,hm⟩ :∃K,K=m_impl_IsName_A1∧m_impl_IsName_L1 d0 K (d0.size+1) 0=some r:=⟨_,rfl,hm⟩
      refine wp_loopX (fun g f w'=>∃(i14:Int),f 0=.string d0∧f 22=.int .i64 (d0.size:Int)∧f 23=.int .i64 i14∧0≤i14∧Below w.heap.size w w'∧m_impl_IsName_L1 d0 K1 g i14=some r) 0 (fun f w'=>Below w.heap.size w w'∧m_impl_IsName_A1  = some r) (d0.size+1) ⟨0,s0,rfl,rfl,(by omega),T,hm⟩ ?_ ?_
      ·rintro f w13 ⟨T,hm⟩
       unfold m_impl_IsName_A1 at hm
       refine blk_hit (then_n ?_)
       refine wp_seq<|wp_rs rfl<|RQ.y rfl (Y.assign (v:=.bool true) rfl)<|RQ.nil<|then_n<|wp_ret ?_
       obtain rfl:=sj hm
       exact (ret1 rfl rfl rfl ⟨rfl,T⟩)
      rintro g f w15 ⟨i14,s0_1,s22_1,s23_1,nn23_1,T,hm⟩
      rcases g with _|g
      ·simp only [m_impl_IsName_L1] at hm; cases hm
      obtain ⟨rec1,hrec1,hm⟩ :∃z,z=m_impl_IsName_L1 d0 K1 g∧m_impl_IsName_B1 d0 z K1 i14=some r:=⟨_,rfl,hm⟩
      unfold m_impl_IsName_B1 at hm
      refine wp_seq<|wp_rs rfl<|RQ.y rfl (Y.binI (v:=.bool (decide (i14 < (d0.size:Int)))) s23_1 s22_1 rfl)<|RQ.nil<|then_n<|wp_seq ?_
      rcases bcases (decide (i14 < (d0.size:Int))) with c16|c16
      ·replace hm:=cF c16 hm
       have pc16:=of_decide_eq_false c16
       refine cond_f rfl (vb rfl c16)<|wp_exit ?_
       exact (then_x (then_x (hit_x ⟨_,rfl,⟨T,(by rw [hK1] at hm; exact hm)⟩⟩)))
      replace hm:=cT c16 hm
      have pc16:=of_decide_eq_true c16
      refine cond_t rfl (vb rfl c16)<|wp_skip<|then_n<|wp_seq<|wp_block<|wp_seq<|wp_rs rfl<|RQ.y rfl (Y.move (v:=.int .i64 i14) s23_1)<|RQ.y rfl (Y.assign (v:=.int .i64 i14) rfl)<|RQ.nil<|then_n<|wp_seq<|wp_rb rfl<|RQ.y rfl (Y.move (v:=.string d0) s0_1)<|RQ.y rfl (Y.move (v:=.int .i64 i14) rfl) ?_
      obtain ⟨x17,e18,hm⟩:=bnd hm
      refine RQ.y rfl (Y.idxStr (b:=x17) rfl rfl (by kernel_rfl) e18) ?_
      obtain ⟨y19,e20,hm⟩:=bnd hm
      refine RQ.call rfl (am1 rfl) (by kernel_rfl) (v:=.bool y19) (bel (K:=fun _=>True) fun w' hb'=>(c_m_impl_isWordByte x17 _ e20  w' ))<|RQ.y rfl (Y.not (b':=(!y19)) rfl rfl)<|RQ.nil ?_
      intro w21 hb22
      have szw21:=hb22.size
      have T:=Tt T hb22
      refine then_n ?_
      rcases bcases y19 with c23|c23
      ·replace hm:=cF c23 hm
       refine cond_t rfl (vbn rfl c23 rfl)<|wp_seq<|wp_rs rfl<|RQ.y rfl (Y.assign (v:=.bool false) rfl)<|RQ.nil<|then_n<|wp_ret ?_
       obtain rfl:=sj hm
       exact (blk_r (then_r (then_r (hit_r (blk_r (then_r (ret1 rfl rfl rfl ⟨rfl,T⟩)))))))
      replace hm:=cT c23 hm
      refine cond_f rfl (vbn rfl c23 rfl)<|wp_skip ?_
      refine blk_n (then_n ?_)
      refine wp_rs rfl<|RQ.y rfl (Y.binI s23_1 rfl (binI_add (m:=i14) (by omega)))<|RQ.y rfl (Y.move (v:=.int .i64 (i14+1)) rfl)<|RQ.nil ?_
      exact (then_n ⟨g,_,Nat.lt_succ_self _,rfl,⟨(i14+1),s0_1,s22_1,rfl,(by omega),T,(by rw [← hrec1]; exact hm)⟩⟩)
     replace hm:=cT c12 hm
     refine cond_t rfl (vb rfl c12)<|wp_seq<|wp_rs rfl<|RQ.y rfl (Y.assign (v:=.bool false) rfl)<|RQ.nil<|then_n<|wp_ret ?_
     obtain rfl:=sj hm
     exact (then_r (ret1 rfl rfl rfl ⟨rfl,T⟩))
    replace hm:=cT c7 hm
    refine RQ.skip (wantN (dj:=17) rfl (vb rfl c7) rfl)<|RQ.skip (wantN (dj:=17) rfl (vb rfl c7) rfl)<|RQ.y rfl (Y.pick (b:=true) (v:=.bool true) (vb rfl c7) rfl)<|RQ.nil ?_
    intro w25 hb26
    have szw25:=hb26.size
    have T:=Tt T hb26
    refine then_n<|cond_t rfl rfl<|wp_seq<|wp_rs rfl<|RQ.y rfl (Y.assign (v:=.bool false) rfl)<|RQ.nil<|then_n<|wp_ret ?_
    obtain rfl:=sj hm
    exact (then_r (ret1 rfl rfl rfl ⟨rfl,T⟩))
   replace hm:=cT c2 hm
   have pc2:=of_decide_eq_true c2
   iterate 3 refine RQ.skip (wantN (dj:=12) rfl (vb rfl c2) rfl) ?_
   refine RQ.y rfl (Y.pick (b:=true) (v:=.bool true) (vb rfl c2) rfl)<|RQ.y rfl (Y.move (v:=.bool true) rfl)<|RQ.skip (wantN (dj:=17) rfl rfl rfl)<|RQ.skip (wantN (dj:=17) rfl rfl rfl)<|RQ.y rfl (Y.pick (b:=true) (v:=.bool true) rfl rfl)<|RQ.nil ?_
   intro w27 hb28
   have szw27:=hb28.size
   have T:=Tt T hb28
   refine then_n<|cond_t rfl rfl<|wp_seq<|wp_rs rfl<|RQ.y rfl (Y.assign (v:=.bool false) rfl)<|RQ.nil<|then_n<|wp_ret ?_
   obtain rfl:=sj hm
   exact (then_r (ret1 rfl rfl rfl ⟨rfl,T⟩))
  replace hm:=cT c1 hm
  have pc1:=of_decide_eq_true c1
  iterate 3 refine RQ.skip (wantN (dj:=7) rfl (vb rfl c1) rfl) ?_
  refine RQ.y rfl (Y.pick (b:=true) (v:=.bool true) (vb rfl c1) rfl)<|RQ.y rfl (Y.move (v:=.bool true) rfl) ?_
  iterate 3 refine RQ.skip (wantN (dj:=12) rfl rfl rfl) ?_
  refine RQ.y rfl (Y.pick (b:=true) (v:=.bool true) rfl rfl)<|RQ.y rfl (Y.move (v:=.bool true) rfl)<|RQ.skip (wantN (dj:=17) rfl rfl rfl)<|RQ.skip (wantN (dj:=17) rfl rfl rfl)<|RQ.y rfl (Y.pick (b:=true) (v:=.bool true) rfl rfl)<|RQ.nil ?_
  intro w29 hb30
  have szw29:=hb30.size
  have T:=Tt T hb30
  refine then_n<|cond_t rfl rfl<|wp_seq<|wp_rs rfl<|RQ.y rfl (Y.assign (v:=.bool false) rfl)<|RQ.nil<|then_n<|wp_ret ?_
  obtain rfl:=sj hm
  exact (then_r (ret1 rfl rfl rfl ⟨rfl,T⟩))
noncomputable def m_impl_IsUpper (d0:ByteArray):Option Bool:=
  ((m_impl_IsName d0).bind fun y1=>(bif y1 then ((getB d0 0).bind fun x6=>((m_impl_isCapital x6).bind fun y8=>some y8)) else some false))
set_option maxHeartbeats 2000000 in
theorem c_m_impl_IsUpper (d0:ByteArray) (r:Bool) (hm:m_impl_IsUpper d0=some r)  (w:World)  :
    Calls Tryz.prog 147 #[.string d0] w fun e w'=>e=.returned (.bool r)∧Below w.heap.size w w':=by
  have T:=Below.refl w.heap.size w
  unfold m_impl_IsUpper at hm
  refine enter 10 Tryz.func147 rfl rfl rfl ?_
  intro f hf
  have s0:f 0=.string d0:=hf 0 _ rfl
  refine wp_seq<|wp_rs rfl<|RQ.y rfl (Y.assign (v:=.bool false) rfl)<|RQ.nil<|then_n<|wp_seq<|wp_rb rfl<|RQ.y rfl (Y.move (v:=.string d0) s0) ?_
  obtain ⟨y1,e2,hm⟩:=bnd hm
  refine RQ.call rfl (am1 rfl) (by kernel_rfl) (v:=.bool y1) (bel (K:=fun _=>True) fun w' hb'=>(c_m_impl_IsName d0 _ e2  w' ))<|RQ.y rfl (Y.move (v:=.bool y1) rfl) ?_
  rcases bcases y1 with c3|c3
  ·replace hm:=cF c3 hm
   iterate 3 refine RQ.skip (wantN (dj:=5) rfl (vb rfl c3) rfl) ?_
   refine RQ.y rfl (Y.pick (b:=false) (v:=.bool false) (vb rfl c3) rfl)<|RQ.y rfl (Y.assign (v:=.bool false) rfl)<|RQ.nil ?_
   intro w4 hb5
   have szw4:=hb5.size
   have T:=Tt T hb5
   refine then_n<|wp_ret ?_
   obtain rfl:=sj hm
   exact (ret1 rfl rfl rfl ⟨rfl,T⟩)
  replace hm:=cT c3 hm
  refine RQ.y (wantT (dj:=5) rfl (vb rfl c3)) (Y.move (v:=.string d0) s0) ?_
  obtain ⟨x6,e7,hm⟩:=bnd hm
  refine RQ.y (wantT (dj:=5) rfl (vb rfl c3)) (Y.idxStr (b:=x6) rfl rfl (by kernel_rfl) e7) ?_
  obtain ⟨y8,e9,hm⟩:=bnd hm
  refine RQ.call (wantT (dj:=5) rfl (vb rfl c3)) (am1 rfl) (by kernel_rfl) (v:=.bool y8) (bel (K:=fun _=>True) fun w' hb'=>(c_m_impl_isCapital x6 _ e9  w' ))<|RQ.y rfl (Y.pick (b:=true) (v:=.bool y8) (vb rfl c3) rfl)<|RQ.y rfl (Y.assign (v:=.bool y8) rfl)<|RQ.nil ?_
  intro w10 hb11
  have szw10:=hb11.size
  have T:=Tt T hb11
  refine then_n<|wp_ret ?_
  obtain rfl:=sj hm
  exact (ret1 rfl rfl rfl ⟨rfl,T⟩)
noncomputable def m_slices_IndexFunc_impl_Data_impl_Data_A1:Option Int:=
  some (-1)
noncomputable def m_slices_IndexFunc_impl_Data_impl_Data_B1 (d0:List DData) (d1:DData→Option Bool) (rec1:Int→Option Int) (K1:Option Int) (i2:Int):Option Int:=
  (bif (decide (i2 < (d0.length:Int))) then ((getI d0 i2).bind fun x5=>((d1 x5).bind fun y15=>(bif y15 then some i2 else (rec1 (i2+1))))) else (K1))
noncomputable def m_slices_IndexFunc_impl_Data_impl_Data_L1 (d0:List DData) (d1:DData→Option Bool) (K1:Option Int):Nat→Int→Option Int
  |0,_=>none
  |g+1,i2=>m_slices_IndexFunc_impl_Data_impl_Data_B1 d0 d1 (m_slices_IndexFunc_impl_Data_impl_Data_L1 d0 d1 K1 g) K1 i2
noncomputable def m_slices_IndexFunc_impl_Data_impl_Data (d0:List DData) (d1:DData→Option Bool):Option Int:=
  (m_slices_IndexFunc_impl_Data_impl_Data_L1 d0 d1 m_slices_IndexFunc_impl_Data_impl_Data_A1 (d0.length+1) 0)
set_option maxHeartbeats 2000000 in
theorem c_m_slices_IndexFunc_impl_Data_impl_Data (d0:List DData) (d1:DData→Option Bool) (r:Int) (hm:m_slices_IndexFunc_impl_Data_impl_Data d0 d1=some r) (v0:Value) (gf1:FuncId) (caps1:Array Value) (w:World) (hv0:Sl dataRd 2 w v0 d0) (hgo1:isGo Tryz.prog gf1=true) (hf1 :∀(x0:DData) (b:Bool),d1 x0=some b→∀w1,Below w.heap.size w w1→∀y0,St dataRd w1 y0 x0→Calls Tryz.prog gf1 (#[y0] ++ caps1) w1 fun e w2=>e=.returned (.bool b)∧Below w1.heap.size w1 w2) :
    Calls Tryz.prog 204 #[v0,.func (.func gf1) #[] caps1] w fun e w'=>e=.returned (.int .i64 r)∧Below w.heap.size w w':=by
  obtain ⟨Aa0,na0,ca0,rfl,ha0,ra0⟩:=hv0
  have ea0:=ha0.len; subst ea0
  have qa0:=len_le ra0
  have T:=Below.refl w.heap.size w
  unfold m_slices_IndexFunc_impl_Data_impl_Data at hm
  refine enter 19 Tryz.func204 rfl rfl rfl ?_
  intro f hf
  have s0:f 0=.slice Aa0 d0.length ca0:=hf 0 _ rfl
  have s1:f 1=.func (.func gf1) #[] caps1:=hf 1 _ rfl
  refine wp_seq<|wp_rs rfl<|RQ.y rfl (Y.assign (v:=.int .i64 0) rfl)<|RQ.nil<|then_n<|wp_seq<|wp_seq<|wp_rs rfl<|RQ.y rfl (Y.move (v:=.slice Aa0 d0.length ca0) s0)<|RQ.y rfl (Y.len (by kernel_rfl) rfl)<|RQ.y rfl (Y.move (v:=.int .i64 0) rfl)<|RQ.nil<|then_n<|wp_block ?_
  obtain ⟨K1,hK1,hm⟩ :∃K,K=m_slices_IndexFunc_impl_Data_impl_Data_A1∧m_slices_IndexFunc_impl_Data_impl_Data_L1 d0 d1 K (d0.length+1) 0=some r:=⟨_,rfl,hm⟩
  refine wp_loopX (fun g f w'=>∃(i2:Int),f 0=.slice Aa0 d0.length ca0∧f 1=.func (.func gf1) #[] caps1∧f 7=.int .i64 (d0.length:Int)∧f 8=.int .i64 i2∧0≤i2∧Below w.heap.size w w'∧m_slices_IndexFunc_impl_Data_impl_Data_L1 d0 d1 K1 g i2=some r) 0 (fun f w'=>Below w.heap.size w w'∧m_slices_IndexFunc_impl_Data_impl_Data_A1  = some r) (d0.length+1) ⟨0,s0,s1,rfl,rfl,(by omega),T,hm⟩ ?_ ?_
  ·rintro f w1 ⟨T,hm⟩
   unfold m_slices_IndexFunc_impl_Data_impl_Data_A1 at hm
   refine blk_hit (then_n ?_)
   refine wp_seq<|wp_rs rfl<|RQ.y rfl (Y.assign (v:=.int .i64 (-1)) rfl)<|RQ.nil<|then_n<|wp_ret ?_
   obtain rfl:=sj hm
   exact (ret1 rfl rfl rfl ⟨rfl,T⟩)
  rintro g f w3 ⟨i2,s0_1,s1_1,s7_1,s8_1,nn8_1,T,hm⟩
  rcases g with _|g
  ·simp only [m_slices_IndexFunc_impl_Data_impl_Data_L1] at hm; cases hm
  obtain ⟨rec1,hrec1,hm⟩ :∃z,z=m_slices_IndexFunc_impl_Data_impl_Data_L1 d0 d1 K1 g∧m_slices_IndexFunc_impl_Data_impl_Data_B1 d0 d1 z K1 i2=some r:=⟨_,rfl,hm⟩
  unfold m_slices_IndexFunc_impl_Data_impl_Data_B1 at hm
  refine wp_seq<|wp_rs rfl<|RQ.y rfl (Y.binI (v:=.bool (decide (i2 < (d0.length:Int)))) s8_1 s7_1 rfl)<|RQ.nil<|then_n<|wp_seq ?_
  rcases bcases (decide (i2 < (d0.length:Int))) with c4|c4
  ·replace hm:=cF c4 hm
   have pc4:=of_decide_eq_false c4
   refine cond_f rfl (vb rfl c4)<|wp_exit ?_
   exact (then_x (then_x (hit_x ⟨_,rfl,⟨T,(by rw [hK1] at hm; exact hm)⟩⟩)))
  replace hm:=cT c4 hm
  have pc4:=of_decide_eq_true c4
  refine cond_t rfl (vb rfl c4)<|wp_skip<|then_n<|wp_seq<|wp_block<|wp_seq<|wp_rs rfl<|RQ.y rfl (Y.move (v:=.int .i64 i2) s8_1)<|RQ.y rfl (Y.assign (v:=.int .i64 i2) rfl)<|RQ.nil<|then_n<|wp_seq<|wp_rb rfl<|RQ.y rfl (Y.move (v:=.func (.func gf1) #[] caps1) s1_1)<|RQ.y rfl (Y.move (v:=.slice Aa0 d0.length ca0) s0_1)<|RQ.y rfl (Y.move (v:=.int .i64 i2) rfl) ?_
  obtain ⟨x5,hx8,hm⟩:=bnd hm
  obtain ⟨k6,hk9,hl10,hx8⟩:=getI_some hx8
  obtain ⟨b12,o13,rfl,hbb12⟩:=ha0.addr (by omega)
  obtain ⟨cs7,hRcs7,hc11⟩:=ha0.el hx8
  have hScs7:=hRcs7
  obtain ⟨A14,n14,c14,rfl,⟨h14,r14⟩⟩:=hRcs7
  have e14:=h14.len; subst e14
  have q14:=len_le r14
  refine RQ.y rfl (Y.indexAddr (m:=k6) (sz:=2) rfl rfl hk9 hl10 (by kernel_rfl))<|RQ.y rfl (Y.loadN (cs:=[.string x5.name,.slice A14 x5.cons.length c14]) rfl (by kernel_rfl) (cells2 (beC (cellT T (hc11 0 _ rfl))) (beC (cellT T (hc11 1 _ rfl))))) ?_
  obtain ⟨y15,e16,hm⟩:=bnd hm
  refine RQ.callV rfl rfl (am1 rfl) hgo1 (v:=.bool y15) (bel (K:=fun _=>True) fun w' hb'=>hf1 x5 y15 e16 w' (Tt T hb') _ (stArg (R:=dataRd) ⟨_,_,_,rfl,⟨SlAt.now constructorRd_ok h14 (Nat.le_refl _) (Tt T hb'),r14⟩⟩))<|RQ.nil ?_
  intro w17 hb18
  have szw17:=hb18.size
  have T:=Tt T hb18
  refine then_n ?_
  rcases bcases y15 with c19|c19
  ·replace hm:=cF c19 hm
   refine cond_f rfl (vb rfl c19)<|wp_skip ?_
   refine blk_n (then_n ?_)
   refine wp_rs rfl<|RQ.y rfl (Y.binI s8_1 rfl (binI_add (m:=i2) (by omega)))<|RQ.y rfl (Y.move (v:=.int .i64 (i2+1)) rfl)<|RQ.nil ?_
   exact (then_n ⟨g,_,Nat.lt_succ_self _,rfl,⟨(i2+1),s0_1,s1_1,s7_1,rfl,(by omega),T,(by rw [← hrec1]; exact hm)⟩⟩)
  replace hm:=cT c19 hm
  refine cond_t rfl (vb rfl c19)<|wp_seq<|wp_rs rfl<|RQ.y rfl (Y.move (v:=.int .i64 i2) rfl)<|RQ.y rfl (Y.assign (v:=.int .i64 i2) rfl)<|RQ.nil<|then_n<|wp_ret ?_
  obtain rfl:=sj hm
  exact (blk_r (then_r (then_r (hit_r (blk_r (then_r (ret1 rfl rfl rfl ⟨rfl,T⟩)))))))
noncomputable def m_impl_findData_1 (d0:DData) (d1:ByteArray):Option Bool:=
  some (d0.name.toList==d1.toList)
set_option maxHeartbeats 2000000 in
theorem c_m_impl_findData_1 (d0:DData) (d1:ByteArray) (r:Bool) (hm:m_impl_findData_1 d0 d1=some r) (v0:Value) (v1:Value) (w:World) (hv0:St dataRd w v0 d0) (hv1:Pt strRd w v1 d1) :
    Calls Tryz.prog 205 #[v0,v1] w fun e w'=>e=.returned (.bool r)∧Below w.heap.size w w':=by
  obtain ⟨csa0,rfl,⟨A1,n1,c1,rfl,⟨h1,r1⟩⟩⟩:=hv0
  have e1:=h1.len; subst e1
  have q1:=len_le r1
  obtain ⟨ba1,oa1,csa1,rfl,hba1,hRa1,hca1⟩:=hv1
  have hSa1:=hRa1
  obtain rfl:=hRa1
  have T:=Below.refl w.heap.size w
  unfold m_impl_findData_1 at hm
  refine enter 8 Tryz.func205 rfl rfl rfl ?_
  intro f hf
  have s0:f 0=.agg #[.string d0.name,.slice A1 d0.cons.length c1]:=hf 0 _ rfl
  have s1:f 1=.pointer (some ⟨ba1,oa1,none⟩):=hf 1 _ rfl
  refine wp_seq<|wp_rl rfl ?_
  refine RL.box rfl s0 (fun w2 B3 hb4 szw2=>?_)
  replace B3:Blk w2 w.heap.size 167 #[.string d0.name,.slice A1 d0.cons.length c1]:=B3
  have GB3:w.heap.size≤w.heap.size:=T.size
  have T:=Tt T hb4
  refine RL.y rfl (Y.assign (v:=.bool false) rfl)<|RL.nil<|then_n<|wp_seq<|wp_rs rfl<|RQ.y rfl (Y.fieldAddr (off:=0) rfl (by kernel_rfl))<|RQ.y rfl (Y.load (v:=.string d0.name) rfl (by kernel_rfl) (eqC (blkCell B3 (i:=0) rfl)))<|RQ.y rfl (Y.load (v:=.string d1) s1 (by kernel_rfl) (eqC (cellT T (hca1 0 _ rfl))))<|RQ.y rfl (Y.eqStr rfl rfl (by kernel_rfl))<|RQ.y rfl (Y.assign (v:=.bool (d0.name.toList==d1.toList)) rfl)<|RQ.nil<|then_n<|wp_ret ?_
  obtain rfl:=sj hm
  exact (ret1 rfl rfl rfl ⟨rfl,T⟩)
noncomputable def m_impl_findData (d0:List DData) (d1:ByteArray):Option Int:=
  ((m_slices_IndexFunc_impl_Data_impl_Data d0 (fun x0=>m_impl_findData_1 x0 d1)).bind fun y5=>some y5)
set_option maxHeartbeats 2000000 in
theorem c_m_impl_findData (d0:List DData) (d1:ByteArray) (r:Int) (hm:m_impl_findData d0 d1=some r) (v0:Value) (w:World) (hv0:Sl dataRd 2 w v0 d0) :
    Calls Tryz.prog 148 #[v0,.string d1] w fun e w'=>e=.returned (.int .i64 r)∧Below w.heap.size w w':=by
  obtain ⟨Aa0,na0,ca0,rfl,ha0,ra0⟩:=hv0
  have ea0:=ha0.len; subst ea0
  have qa0:=len_le ra0
  have T:=Below.refl w.heap.size w
  unfold m_impl_findData at hm
  refine enter 8 Tryz.func148 rfl rfl rfl ?_
  intro f hf
  have s0:f 0=.slice Aa0 d0.length ca0:=hf 0 _ rfl
  have s1:f 1=.string d1:=hf 1 _ rfl
  refine wp_seq<|wp_rl rfl ?_
  refine RL.box rfl s1 (fun w1 B2 hb3 szw1=>?_)
  replace B2:Blk w1 w.heap.size 9 #[.string d1]:=B2
  have GB2:w.heap.size≤w.heap.size:=T.size
  have T:=Tt T hb3
  refine RL.y rfl (Y.assign (v:=.int .i64 0) rfl)<|RL.nil<|then_n<|wp_seq<|wp_rb rfl<|RQ.y rfl (Y.move (v:=.slice Aa0 d0.length ca0) s0)<|RQ.y rfl (Y.makeFunc (vals:=#[.pointer (some ⟨w.heap.size,0,none⟩)]) (am1 rfl)) ?_
  obtain ⟨y5,e6,hm⟩:=bnd hm
  refine RQ.call rfl (am2 rfl rfl) (by kernel_rfl) (v:=.int .i64 y5) (bel (K:=fun _=>True) fun w' hb'=>(c_m_slices_IndexFunc_impl_Data_impl_Data d0 (fun x0=>m_impl_findData_1 x0 d1) _ e6 _ _ _ w' (slArg dataRd_ok ha0 ra0 (Tt T hb')) (by kernel_rfl) (fun x0 b hx w1 hb1 y0 hy0=>Calls.arr (by simp) (c_m_impl_findData_1 x0 d1 _ hx _ _ w1 hy0 (ptBox (R:=strRd) (blkT B2 (Tt hb' hb1)) rfl)))))<|RQ.y rfl (Y.assign (v:=.int .i64 y5) rfl)<|RQ.nil ?_
  intro w7 hb8
  have szw7:=hb8.size
  have T:=Tt T hb8
  refine then_n<|wp_ret ?_
  obtain rfl:=sj hm
  exact (ret1 rfl rfl rfl ⟨rfl,T⟩)
noncomputable def m_impl_typeShape_A1 (d0:DType) (i6:Int) (i7:Int) (b8:Bool):Option (Int × Int × Bool):=
  (bif (d0.kind==1) then (bif (d0.name.toList==(ByteArray.mk #[]).toList) then some (i6,i7,((d0.kids.length:Int)==0)) else some (i6,i7,false)) else (bif (d0.kind==2) then ((m_impl_IsUpper d0.name).bind fun y16=>(bif y16 then (bif (d0.name.toList==(ByteArray.mk #[73,110,116]).toList) then some (i6,i7,false) else some (i6,i7,((d0.kids.length:Int)==0))) else some (i6,i7,false))) else (bif (d0.kind==3) then (bif (d0.name.toList==(ByteArray.mk #[]).toList) then some (i6,i7,((d0.kids.length:Int)==2)) else some (i6,i7,false)) else (bif (d0.kind==4) then (bif (d0.name.toList==(ByteArray.mk #[]).toList) then some (i6,i7,((d0.kids.length:Int)==1)) else some (i6,i7,false)) else some (i6,i7,b8)))))
noncomputable def m_impl_typeShape_B1 (d0:DType) (self:DType→Option (Int × Int × Bool)) (rec1:Int→Int→Bool→Int→Option (Int × Int × Bool)) (K1:Int→Int→Bool→Option (Int × Int × Bool)) (i27:Int) (i28:Int) (b29:Bool) (i30:Int):Option (Int × Int × Bool):=
  (bif (decide (i30 < (d0.kids.length:Int))) then ((getI d0.kids i30).bind fun x33=>((self x33).bind fun y50=>(bif y50.2.2 then ((ck (y50.1+1)).bind fun s55=>((ck (i28+y50.2.1)).bind fun s56=>(rec1 (if s55 > i27 then s55 else i27) s56 b29 (i30+1)))) else some (0,0,false)))) else (K1 i27 i28 b29))
noncomputable def m_impl_typeShape_L1 (d0:DType) (self:DType→Option (Int × Int × Bool)) (K1:Int→Int→Bool→Option (Int × Int × Bool)):Nat→Int→Int→Bool→Int→Option (Int × Int × Bool)
  |0,_,_,_,_=>none
  |g+1,i27,i28,b29,i30=>m_impl_typeShape_B1 d0 self (m_impl_typeShape_L1 d0 self K1 g) K1 i27 i28 b29 i30
noncomputable def m_impl_typeShape_R (self:DType→Option (Int × Int × Bool)) (d0:DType):Option (Int × Int × Bool):=
  (m_impl_typeShape_L1 d0 self (m_impl_typeShape_A1 d0) (d0.kids.length+1) 1 1 false 0)
noncomputable def m_impl_typeShape:Nat→DType→Option (Int × Int × Bool)
  |0,_=>none
  |gas+1,d0=>m_impl_typeShape_R (m_impl_typeShape gas) d0
set_option maxHeartbeats 2000000 in
theorem c_m_impl_typeShape :∀(gas:Nat) (d0:DType) (r:Int × Int × Bool) (hm:m_impl_typeShape gas d0=some r) (v0:Value) (w:World) (hv0:St typeRd w v0 d0),
    Calls Tryz.prog 239 #[v0] w fun e w'=>e=.returned (.tuple #[.int .i64 r.1,.int .i64 r.2.1,.bool r.2.2])∧Below w.heap.size w w':=by
  intro gas
  induction gas with
  |zero=>
   intro d0 r hm v0 w hv0
   cases hm
  |succ gas ih=>
   intro d0 r hm v0 w hv0
   obtain ⟨csa0,rfl,hRR0⟩:=hv0
   obtain ⟨A1,n1,c1,rfl,⟨h1,r1⟩⟩:=(typeRd_out hRR0)
   have e1:=h1.len; subst e1
   have q1:=len_le r1
   have T:=Below.refl w.heap.size w
   obtain ⟨self,hself,hm⟩ :∃s,s=m_impl_typeShape gas∧m_impl_typeShape_R s d0=some r:=⟨_,rfl,hm⟩
   unfold m_impl_typeShape_R at hm
   refine enter 87 Tryz.func239 rfl rfl rfl ?_
   intro f hf
   have s0:f 0=.agg #[.int .i64 d0.kind,.string d0.name,.slice A1 d0.kids.length c1]:=hf 0 _ rfl
   refine wp_seq<|wp_rl rfl ?_
   refine RL.box rfl s0 (fun w2 B3 hb4 szw2=>?_)
   replace B3:Blk w2 w.heap.size 114 #[.int .i64 d0.kind,.string d0.name,.slice A1 d0.kids.length c1]:=B3
   have GB3:w.heap.size≤w.heap.size:=T.size
   have T:=Tt T hb4
   refine RL.y rfl (Y.assign (v:=.int .i64 0) rfl)<|RL.y rfl (Y.assign (v:=.int .i64 0) rfl)<|RL.y rfl (Y.assign (v:=.bool false) rfl)<|RL.nil<|then_n<|wp_seq<|wp_rs rfl<|RQ.y rfl (Y.assign (v:=.int .i64 1) rfl)<|RQ.y rfl (Y.assign (v:=.int .i64 1) rfl)<|RQ.nil<|then_n<|wp_seq<|wp_seq<|wp_rs rfl<|RQ.y rfl (Y.fieldAddr (off:=2) rfl (by kernel_rfl))<|RQ.y rfl (Y.load (v:=.slice A1 d0.kids.length c1) rfl (by kernel_rfl) (eqC (blkCell B3 (i:=2) rfl)))<|RQ.y rfl (Y.len (by kernel_rfl) rfl)<|RQ.y rfl (Y.move (v:=.int .i64 0) rfl)<|RQ.nil<|then_n<|wp_block ?_
   obtain ⟨K1,hK1,hm⟩ :∃K,K=(m_impl_typeShape_A1 d0)∧m_impl_typeShape_L1 d0 self K (d0.kids.length+1) 1 1 false 0=some r:=⟨_,rfl,hm⟩
   refine wp_loopX (fun g f w'=>∃(i27:Int) (i28:Int) (b29:Bool) (i30:Int),f 1=.pointer (some ⟨w.heap.size,0,none⟩)∧f 11=.slice A1 d0.kids.length c1∧f 12=.int .i64 (d0.kids.length:Int)∧f 2=.int .i64 i27∧f 3=.int .i64 i28∧f 4=.bool b29∧f 13=.int .i64 i30∧0≤i30∧Blk w' w.heap.size 114 #[.int .i64 d0.kind,.string d0.name,.slice A1 d0.kids.length c1]∧Below w.heap.size w w'∧m_impl_typeShape_L1 d0 self K1 g i27 i28 b29 i30=some r) 0 (fun f w'=>∃(i6:Int) (i7:Int) (b8:Bool),f 1=.pointer (some ⟨w.heap.size,0,none⟩)∧f 2=.int .i64 i6∧f 3=.int .i64 i7∧f 4=.bool b8∧Blk w' w.heap.size 114 #[.int .i64 d0.kind,.string d0.name,.slice A1 d0.kids.length c1]∧Below w.heap.size w w'∧m_impl_typeShape_A1 d0 i6 i7 b8=some r) (d0.kids.length+1) ⟨1,1,false,0,rfl,rfl,rfl,rfl,rfl,rfl,rfl,(by omega),B3,T,hm⟩ ?_ ?_
   ·rintro f w9 ⟨i6,i7,b8,s1_1x,s2_1x,s3_1x,s4_1x,B3,T,hm⟩
    unfold m_impl_typeShape_A1 at hm
    refine blk_hit (then_n ?_)
    refine wp_seq<|wp_seq<|wp_rs rfl<|RQ.y rfl (Y.fieldAddr (off:=0) s1_1x (by kernel_rfl))<|RQ.y rfl (Y.load (v:=.int .i64 d0.kind) rfl (by kernel_rfl) (eqC (blkCell B3 (i:=0) rfl)))<|RQ.nil<|then_n<|wp_block<|wp_seq<|wp_rs rfl<|RQ.y rfl (Y.binI (v:=.bool (d0.kind==1)) rfl rfl rfl)<|RQ.y rfl (Y.assign (v:=.bool (d0.kind==1)) rfl)<|RQ.nil<|then_n ?_
    rcases bcases (d0.kind==1) with c10|c10
    ·replace hm:=cF c10 hm
     refine cond_f rfl (vb rfl c10)<|wp_seq<|wp_rs rfl<|RQ.y rfl (Y.binI (v:=.bool (d0.kind==2)) rfl rfl rfl)<|RQ.y rfl (Y.assign (v:=.bool (d0.kind==2)) rfl)<|RQ.nil<|then_n ?_
     rcases bcases (d0.kind==2) with c11|c11
     ·replace hm:=cF c11 hm
      refine cond_f rfl (vb rfl c11)<|wp_seq<|wp_rs rfl<|RQ.y rfl (Y.binI (v:=.bool (d0.kind==3)) rfl rfl rfl)<|RQ.y rfl (Y.assign (v:=.bool (d0.kind==3)) rfl)<|RQ.nil<|then_n ?_
      rcases bcases (d0.kind==3) with c12|c12
      ·replace hm:=cF c12 hm
       refine cond_f rfl (vb rfl c12)<|wp_seq<|wp_rs rfl<|RQ.y rfl (Y.binI (v:=.bool (d0.kind==4)) rfl rfl rfl)<|RQ.y rfl (Y.assign (v:=.bool (d0.kind==4)) rfl)<|RQ.nil<|then_n ?_
       rcases bcases (d0.kind==4) with c13|c13
       ·replace hm:=cF c13 hm
        refine cond_f rfl (vb rfl c13)<|wp_skip ?_
        refine blk_n (then_n ?_)
        refine wp_seq<|wp_rs rfl<|RQ.y rfl (Y.move (v:=.int .i64 i6) s2_1x)<|RQ.y rfl (Y.move (v:=.int .i64 i7) s3_1x)<|RQ.y rfl (Y.move (v:=.bool b8) s4_1x)<|RQ.y rfl (Y.assign (v:=.int .i64 i6) rfl)<|RQ.y rfl (Y.assign (v:=.int .i64 i7) rfl)<|RQ.y rfl (Y.assign (v:=.bool b8) rfl)<|RQ.nil<|then_n<|wp_ret ?_
        obtain rfl:=sj hm
        exact (ret3 rfl rfl rfl rfl rfl ⟨rfl,T⟩)
       replace hm:=cT c13 hm
       refine cond_t rfl (vb rfl c13)<|wp_rs rfl<|RQ.y rfl (Y.fieldAddr (off:=1) s1_1x (by kernel_rfl))<|RQ.y rfl (Y.load (v:=.string d0.name) rfl (by kernel_rfl) (eqC (blkCell B3 (i:=1) rfl)))<|RQ.y rfl (Y.eqStr rfl rfl (by kernel_rfl))<|RQ.y rfl (Y.move (v:=.bool (d0.name.toList==(ByteArray.mk #[]).toList)) rfl) ?_
       rcases bcases (d0.name.toList==(ByteArray.mk #[]).toList) with c14|c14
       ·replace hm:=cF c14 hm
        iterate 4 refine RQ.skip (wantN (dj:=78) rfl (vb rfl c14) rfl) ?_
        refine RQ.y rfl (Y.pick (b:=false) (v:=.bool false) (vb rfl c14) rfl)<|RQ.y rfl (Y.assign (v:=.bool false) rfl)<|RQ.nil ?_
        refine blk_n (then_n ?_)
        refine wp_seq<|wp_rs rfl<|RQ.y rfl (Y.move (v:=.int .i64 i6) s2_1x)<|RQ.y rfl (Y.move (v:=.int .i64 i7) s3_1x)<|RQ.y rfl (Y.move (v:=.bool false) rfl)<|RQ.y rfl (Y.assign (v:=.int .i64 i6) rfl)<|RQ.y rfl (Y.assign (v:=.int .i64 i7) rfl)<|RQ.y rfl (Y.assign (v:=.bool false) rfl)<|RQ.nil<|then_n<|wp_ret ?_
        obtain rfl:=sj hm
        exact (ret3 rfl rfl rfl rfl rfl ⟨rfl,T⟩)
       replace hm:=cT c14 hm
       refine RQ.y (wantT (dj:=78) rfl (vb rfl c14)) (Y.fieldAddr (off:=2) s1_1x (by kernel_rfl))<|RQ.y (wantT (dj:=78) rfl (vb rfl c14)) (Y.load (v:=.slice A1 d0.kids.length c1) rfl (by kernel_rfl) (eqC (blkCell B3 (i:=2) rfl)))<|RQ.y (wantT (dj:=78) rfl (vb rfl c14)) (Y.len (by kernel_rfl) rfl)<|RQ.y (wantT (dj:=78) rfl (vb rfl c14)) (Y.binI (v:=.bool ((d0.kids.length:Int)==1)) rfl rfl rfl)<|RQ.y rfl (Y.pick (b:=true) (v:=.bool ((d0.kids.length:Int)==1)) (vb rfl c14) rfl)<|RQ.y rfl (Y.assign (v:=.bool ((d0.kids.length:Int)==1)) rfl)<|RQ.nil ?_
       refine blk_n (then_n ?_)
       refine wp_seq<|wp_rs rfl<|RQ.y rfl (Y.move (v:=.int .i64 i6) s2_1x)<|RQ.y rfl (Y.move (v:=.int .i64 i7) s3_1x)<|RQ.y rfl (Y.move (v:=.bool ((d0.kids.length:Int)==1)) rfl)<|RQ.y rfl (Y.assign (v:=.int .i64 i6) rfl)<|RQ.y rfl (Y.assign (v:=.int .i64 i7) rfl)<|RQ.y rfl (Y.assign (v:=.bool ((d0.kids.length:Int)==1)) rfl)<|RQ.nil<|then_n<|wp_ret ?_
       obtain rfl:=sj hm
       exact (ret3 rfl rfl rfl rfl rfl ⟨rfl,T⟩)
      replace hm:=cT c12 hm
      refine cond_t rfl (vb rfl c12)<|wp_rs rfl<|RQ.y rfl (Y.fieldAddr (off:=1) s1_1x (by kernel_rfl))<|RQ.y rfl (Y.load (v:=.string d0.name) rfl (by kernel_rfl) (eqC (blkCell B3 (i:=1) rfl)))<|RQ.y rfl (Y.eqStr rfl rfl (by kernel_rfl))<|RQ.y rfl (Y.move (v:=.bool (d0.name.toList==(ByteArray.mk #[]).toList)) rfl) ?_
      rcases bcases (d0.name.toList==(ByteArray.mk #[]).toList) with c15|c15
      ·replace hm:=cF c15 hm
       iterate 4 refine RQ.skip (wantN (dj:=67) rfl (vb rfl c15) rfl) ?_
       refine RQ.y rfl (Y.pick (b:=false) (v:=.bool false) (vb rfl c15) rfl)<|RQ.y rfl (Y.assign (v:=.bool false) rfl)<|RQ.nil ?_
       refine blk_n (then_n ?_)
       refine wp_seq<|wp_rs rfl<|RQ.y rfl (Y.move (v:=.int .i64 i6) s2_1x)<|RQ.y rfl (Y.move (v:=.int .i64 i7) s3_1x)<|RQ.y rfl (Y.move (v:=.bool false) rfl)<|RQ.y rfl (Y.assign (v:=.int .i64 i6) rfl)<|RQ.y rfl (Y.assign (v:=.int .i64 i7) rfl)<|RQ.y rfl (Y.assign (v:=.bool false) rfl)<|RQ.nil<|then_n<|wp_ret ?_
       obtain rfl:=sj hm
       exact (ret3 rfl rfl rfl rfl rfl ⟨rfl,T⟩)
      replace hm:=cT c15 hm
      refine RQ.y (wantT (dj:=67) rfl (vb rfl c15)) (Y.fieldAddr (off:=2) s1_1x (by kernel_rfl))<|RQ.y (wantT (dj:=67) rfl (vb rfl c15)) (Y.load (v:=.slice A1 d0.kids.length c1) rfl (by kernel_rfl) (eqC (blkCell B3 (i:=2) rfl)))<|RQ.y (wantT (dj:=67) rfl (vb rfl c15)) (Y.len (by kernel_rfl) rfl)<|RQ.y (wantT (dj:=67) rfl (vb rfl c15)) (Y.binI (v:=.bool ((d0.kids.length:Int)==2)) rfl rfl rfl)<|RQ.y rfl (Y.pick (b:=true) (v:=.bool ((d0.kids.length:Int)==2)) (vb rfl c15) rfl)<|RQ.y rfl (Y.assign (v:=.bool ((d0.kids.length:Int)==2)) rfl)<|RQ.nil ?_
      refine blk_n (then_n ?_)
      refine wp_seq<|wp_rs rfl<|RQ.y rfl (Y.move (v:=.int .i64 i6) s2_1x)<|RQ.y rfl (Y.move (v:=.int .i64 i7) s3_1x)<|RQ.y rfl (Y.move (v:=.bool ((d0.kids.length:Int)==2)) rfl)<|RQ.y rfl (Y.assign (v:=.int .i64 i6) rfl)<|RQ.y rfl (Y.assign (v:=.int .i64 i7) rfl)<|RQ.y rfl (Y.assign (v:=.bool ((d0.kids.length:Int)==2)) rfl)<|RQ.nil<|then_n<|wp_ret ?_
      obtain rfl:=sj hm
      exact (ret3 rfl rfl rfl rfl rfl ⟨rfl,T⟩)
     replace hm:=cT c11 hm
     refine cond_t rfl (vb rfl c11)<|wp_rb rfl<|RQ.y rfl (Y.fieldAddr (off:=1) s1_1x (by kernel_rfl))<|RQ.y rfl (Y.load (v:=.string d0.name) rfl (by kernel_rfl) (beC (blkCell B3 (i:=1) rfl))) ?_
     obtain ⟨y16,e17,hm⟩:=bnd hm
     refine RQ.call rfl (am1 rfl) (by kernel_rfl) (v:=.bool y16) (bel (K:=fun _=>True) fun w' hb'=>(c_m_impl_IsUpper d0.name _ e17  w' ))<|RQ.y rfl (Y.move (v:=.bool y16) rfl) ?_
     rcases bcases y16 with c18|c18
     ·replace hm:=cF c18 hm
      iterate 3 refine RQ.skip (wantN (dj:=51) rfl (vb rfl c18) rfl) ?_
      refine RQ.y rfl (Y.pick (b:=false) (v:=.bool false) (vb rfl c18) rfl)<|RQ.y rfl (Y.move (v:=.bool false) rfl) ?_
      iterate 4 refine RQ.skip (wantN (dj:=56) rfl rfl rfl) ?_
      refine RQ.y rfl (Y.pick (b:=false) (v:=.bool false) rfl rfl)<|RQ.y rfl (Y.assign (v:=.bool false) rfl)<|RQ.nil ?_
      intro w19 hb20
      have szw19:=hb20.size
      have T:=Tt T hb20
      refine blk_n (then_n ?_)
      refine wp_seq<|wp_rs rfl<|RQ.y rfl (Y.move (v:=.int .i64 i6) s2_1x)<|RQ.y rfl (Y.move (v:=.int .i64 i7) s3_1x)<|RQ.y rfl (Y.move (v:=.bool false) rfl)<|RQ.y rfl (Y.assign (v:=.int .i64 i6) rfl)<|RQ.y rfl (Y.assign (v:=.int .i64 i7) rfl)<|RQ.y rfl (Y.assign (v:=.bool false) rfl)<|RQ.nil<|then_n<|wp_ret ?_
      obtain rfl:=sj hm
      exact (ret3 rfl rfl rfl rfl rfl ⟨rfl,T⟩)
     replace hm:=cT c18 hm
     refine RQ.y (wantT (dj:=51) rfl (vb rfl c18)) (Y.fieldAddr (off:=1) s1_1x (by kernel_rfl))<|RQ.y (wantT (dj:=51) rfl (vb rfl c18)) (Y.load (v:=.string d0.name) rfl (by kernel_rfl) (beC (blkCell B3 (i:=1) rfl)))<|RQ.y (wantT (dj:=51) rfl (vb rfl c18)) (Y.neStr rfl rfl (by kernel_rfl))<|RQ.y rfl (Y.pick (b:=true) (v:=.bool (!(d0.name.toList==(ByteArray.mk #[73,110,116]).toList))) (vb rfl c18) rfl)<|RQ.y rfl (Y.move (v:=.bool (!(d0.name.toList==(ByteArray.mk #[73,110,116]).toList))) rfl) ?_
     rcases bcases (d0.name.toList==(ByteArray.mk #[73,110,116]).toList) with c21|c21
     ·replace hm:=cF c21 hm
      refine RQ.y (wantT (dj:=56) rfl (vbn rfl c21 rfl)) (Y.fieldAddr (off:=2) s1_1x (by kernel_rfl))<|RQ.y (wantT (dj:=56) rfl (vbn rfl c21 rfl)) (Y.load (v:=.slice A1 d0.kids.length c1) rfl (by kernel_rfl) (beC (blkCell B3 (i:=2) rfl)))<|RQ.y (wantT (dj:=56) rfl (vbn rfl c21 rfl)) (Y.len (by kernel_rfl) rfl)<|RQ.y (wantT (dj:=56) rfl (vbn rfl c21 rfl)) (Y.binI (v:=.bool ((d0.kids.length:Int)==0)) rfl rfl rfl)<|RQ.y rfl (Y.pick (b:=true) (v:=.bool ((d0.kids.length:Int)==0)) (vbn rfl c21 rfl) rfl)<|RQ.y rfl (Y.assign (v:=.bool ((d0.kids.length:Int)==0)) rfl)<|RQ.nil ?_
      intro w22 hb23
      have szw22:=hb23.size
      have T:=Tt T hb23
      refine blk_n (then_n ?_)
      refine wp_seq<|wp_rs rfl<|RQ.y rfl (Y.move (v:=.int .i64 i6) s2_1x)<|RQ.y rfl (Y.move (v:=.int .i64 i7) s3_1x)<|RQ.y rfl (Y.move (v:=.bool ((d0.kids.length:Int)==0)) rfl)<|RQ.y rfl (Y.assign (v:=.int .i64 i6) rfl)<|RQ.y rfl (Y.assign (v:=.int .i64 i7) rfl)<|RQ.y rfl (Y.assign (v:=.bool ((d0.kids.length:Int)==0)) rfl)<|RQ.nil<|then_n<|wp_ret ?_
      obtain rfl:=sj hm
      exact (ret3 rfl rfl rfl rfl rfl ⟨rfl,T⟩)
     replace hm:=cT c21 hm
     iterate 4 refine RQ.skip (wantN (dj:=56) rfl (vbn rfl c21 rfl) rfl) ?_
     refine RQ.y rfl (Y.pick (b:=false) (v:=.bool false) (vbn rfl c21 rfl) rfl)<|RQ.y rfl (Y.assign (v:=.bool false) rfl)<|RQ.nil ?_
     intro w24 hb25
     have szw24:=hb25.size
     have T:=Tt T hb25
     refine blk_n (then_n ?_)
     refine wp_seq<|wp_rs rfl<|RQ.y rfl (Y.move (v:=.int .i64 i6) s2_1x)<|RQ.y rfl (Y.move (v:=.int .i64 i7) s3_1x)<|RQ.y rfl (Y.move (v:=.bool false) rfl)<|RQ.y rfl (Y.assign (v:=.int .i64 i6) rfl)<|RQ.y rfl (Y.assign (v:=.int .i64 i7) rfl)<|RQ.y rfl (Y.assign (v:=.bool false) rfl)<|RQ.nil<|then_n<|wp_ret ?_
     obtain rfl:=sj hm
     exact (ret3 rfl rfl rfl rfl rfl ⟨rfl,T⟩)
    replace hm:=cT c10 hm
    refine cond_t rfl (vb rfl c10)<|wp_rs rfl<|RQ.y rfl (Y.fieldAddr (off:=1) s1_1x (by kernel_rfl))<|RQ.y rfl (Y.load (v:=.string d0.name) rfl (by kernel_rfl) (eqC (blkCell B3 (i:=1) rfl)))<|RQ.y rfl (Y.eqStr rfl rfl (by kernel_rfl))<|RQ.y rfl (Y.move (v:=.bool (d0.name.toList==(ByteArray.mk #[]).toList)) rfl) ?_
    rcases bcases (d0.name.toList==(ByteArray.mk #[]).toList) with c26|c26
    ·replace hm:=cF c26 hm
     iterate 4 refine RQ.skip (wantN (dj:=40) rfl (vb rfl c26) rfl) ?_
     refine RQ.y rfl (Y.pick (b:=false) (v:=.bool false) (vb rfl c26) rfl)<|RQ.y rfl (Y.assign (v:=.bool false) rfl)<|RQ.nil ?_
     refine blk_n (then_n ?_)
     refine wp_seq<|wp_rs rfl<|RQ.y rfl (Y.move (v:=.int .i64 i6) s2_1x)<|RQ.y rfl (Y.move (v:=.int .i64 i7) s3_1x)<|RQ.y rfl (Y.move (v:=.bool false) rfl)<|RQ.y rfl (Y.assign (v:=.int .i64 i6) rfl)<|RQ.y rfl (Y.assign (v:=.int .i64 i7) rfl)<|RQ.y rfl (Y.assign (v:=.bool false) rfl)<|RQ.nil<|then_n<|wp_ret ?_
     obtain rfl:=sj hm
     exact (ret3 rfl rfl rfl rfl rfl ⟨rfl,T⟩)
    replace hm:=cT c26 hm
    refine RQ.y (wantT (dj:=40) rfl (vb rfl c26)) (Y.fieldAddr (off:=2) s1_1x (by kernel_rfl))<|RQ.y (wantT (dj:=40) rfl (vb rfl c26)) (Y.load (v:=.slice A1 d0.kids.length c1) rfl (by kernel_rfl) (eqC (blkCell B3 (i:=2) rfl)))<|RQ.y (wantT (dj:=40) rfl (vb rfl c26)) (Y.len (by kernel_rfl) rfl)<|RQ.y (wantT (dj:=40) rfl (vb rfl c26)) (Y.binI (v:=.bool ((d0.kids.length:Int)==0)) rfl rfl rfl)<|RQ.y rfl (Y.pick (b:=true) (v:=.bool ((d0.kids.length:Int)==0)) (vb rfl c26) rfl)<|RQ.y rfl (Y.assign (v:=.bool ((d0.kids.length:Int)==0)) rfl)<|RQ.nil ?_
    refine blk_n (then_n ?_)
    refine wp_seq<|wp_rs rfl<|RQ.y rfl (Y.move (v:=.int .i64 i6) s2_1x)<|RQ.y rfl (Y.move (v:=.int .i64 i7) s3_1x)<|RQ.y rfl (Y.move (v:=.bool ((d0.kids.length:Int)==0)) rfl)<|RQ.y rfl (Y.assign (v:=.int .i64 i6) rfl)<|RQ.y rfl (Y.assign (v:=.int .i64 i7) rfl)<|RQ.y rfl (Y.assign (v:=.bool ((d0.kids.length:Int)==0)) rfl)<|RQ.nil<|then_n<|wp_ret ?_
    obtain rfl:=sj hm
    exact (ret3 rfl rfl rfl rfl rfl ⟨rfl,T⟩)
   rintro g f w31 ⟨i27,i28,b29,i30,s1_1,s11_1,s12_1,s2_1,s3_1,s4_1,s13_1,nn13_1,B3,T,hm⟩
   rcases g with _|g
   ·simp only [m_impl_typeShape_L1] at hm; cases hm
   obtain ⟨rec1,hrec1,hm⟩ :∃z,z=m_impl_typeShape_L1 d0 self K1 g∧m_impl_typeShape_B1 d0 self z K1 i27 i28 b29 i30=some r:=⟨_,rfl,hm⟩
   unfold m_impl_typeShape_B1 at hm
   refine wp_seq<|wp_rs rfl<|RQ.y rfl (Y.binI (v:=.bool (decide (i30 < (d0.kids.length:Int)))) s13_1 s12_1 rfl)<|RQ.nil<|then_n<|wp_seq ?_
   rcases bcases (decide (i30 < (d0.kids.length:Int))) with c32|c32
   ·replace hm:=cF c32 hm
    have pc32:=of_decide_eq_false c32
    refine cond_f rfl (vb rfl c32)<|wp_exit ?_
    exact (then_x (then_x (hit_x ⟨_,rfl,⟨i27,i28,b29,s1_1,s2_1,s3_1,s4_1,B3,T,(by rw [hK1] at hm; exact hm)⟩⟩)))
   replace hm:=cT c32 hm
   have pc32:=of_decide_eq_true c32
   refine cond_t rfl (vb rfl c32)<|wp_skip<|then_n<|wp_seq<|wp_block<|wp_seq<|wp_rl rfl ?_
   obtain ⟨x33,hx36,hm⟩:=bnd hm
   obtain ⟨k34,hk37,hl38,hx36⟩:=getI_some hx36
   obtain ⟨b40,o41,rfl,hbb40⟩:=h1.addr (by omega)
   obtain ⟨cs35,hRcs35,hc39⟩:=h1.el hx36
   have hScs35:=hRcs35
   obtain ⟨A42,n42,c42,rfl,⟨h42,r42⟩⟩:=(typeRd_out hRcs35)
   have e42:=h42.len; subst e42
   have q42:=len_le r42
   refine RL.y rfl (Y.indexAddr (m:=k34) (sz:=3) s11_1 s13_1 hk37 hl38 (by kernel_rfl))<|RL.y rfl (Y.loadN (cs:=[.int .i64 x33.kind,.string x33.name,.slice A42 x33.kids.length c42]) rfl (by kernel_rfl) (cells3 (eqC (cellT T (hc39 0 _ rfl))) (eqC (cellT T (hc39 1 _ rfl))) (eqC (cellT T (hc39 2 _ rfl))))) ?_
   refine RL.alloc (z:=.agg #[.int .i64 0,.string ByteArray.empty,.slice none 0 0]) rfl (by kernel_rfl) (fun w43 B44 hb45 szw43=>?_)
   replace B44:Blk w43 w31.heap.size 114 #[.int .i64 0,.string ByteArray.empty,.slice none 0 0]:=B44
   have GB44:w.heap.size≤w31.heap.size:=T.size
   have Eob46_ob5:=Nat.ne_of_lt B3.lt
   have B3:=blkT B3 hb45
   have T:=Tt T hb45
   refine RL.store (v:=.agg #[.int .i64 x33.kind,.string x33.name,.slice A42 x33.kids.length c42]) (cs':=#[.int .i64 x33.kind,.string x33.name,.slice A42 x33.kids.length c42]) rfl rfl rfl B44 (by kernel_rfl) (by rfl) (by rfl) (by rfl) (fun w47 B48 ho49=>?_)
   have szw47:=ho49.size
   have B3:=B3.only_ ho49 (by intro hin; simp at hin; exact Eob46_ob5 hin)
   have T:=T.trans (ho49.below (by first|(simp; done)|(simp; omega)))
   refine RL.nil<|then_n<|wp_seq<|wp_rb rfl<|RQ.y rfl (Y.loadN (cs:=[.int .i64 x33.kind,.string x33.name,.slice A42 x33.kids.length c42]) rfl (by kernel_rfl) (cells3 (beC (blkCell B48 (i:=0) rfl)) (beC (blkCell B48 (i:=1) rfl)) (beC (blkCell B48 (i:=2) rfl)))) ?_
   obtain ⟨y50,e51,hm⟩:=bnd hm
   refine RQ.call rfl (am1 rfl) (by kernel_rfl) (v:=.tuple #[.int .i64 y50.1,.int .i64 y50.2.1,.bool y50.2.2]) (bel (K:=fun _=>True) fun w' hb'=>(ih x33 _ (by rw [← hself]; exact e51) _ w' (stArg (R:=typeRd) (typeRd_in ⟨_,_,_,rfl,⟨SlAt.now typeRd_ok h42 (Nat.le_refl _) (Tt T hb'),r42⟩⟩))))<|RQ.y rfl (Y.move (v:=.tuple #[.int .i64 y50.1,.int .i64 y50.2.1,.bool y50.2.2]) rfl)<|RQ.y rfl (Y.extract (i:=0) rfl rfl)<|RQ.y rfl (Y.extract (i:=1) rfl rfl)<|RQ.y rfl (Y.extract (i:=2) rfl rfl)<|RQ.y rfl (Y.assign (v:=.int .i64 y50.1) rfl)<|RQ.y rfl (Y.assign (v:=.int .i64 y50.2.1) rfl)<|RQ.y rfl (Y.assign (v:=.bool y50.2.2) rfl)<|RQ.nil ?_
   intro w52 hb53
   have szw52:=hb53.size
   have B3:=blkT B3 hb53
   have T:=Tt T hb53
   refine then_n<|wp_seq<|wp_seq<|wp_rs rfl<|RQ.y rfl (Y.move (v:=.bool y50.2.2) rfl)<|RQ.y rfl (Y.not (b':=(!y50.2.2)) rfl rfl)<|RQ.nil<|then_n ?_
   rcases bcases y50.2.2 with c54|c54
   ·replace hm:=cF c54 hm
    refine cond_t rfl (vbn rfl c54 rfl)<|wp_seq<|wp_rs rfl<|RQ.y rfl (Y.assign (v:=.int .i64 0) rfl)<|RQ.y rfl (Y.assign (v:=.int .i64 0) rfl)<|RQ.y rfl (Y.assign (v:=.bool false) rfl)<|RQ.nil<|then_n<|wp_ret ?_
    obtain rfl:=sj hm
    exact (then_r (blk_r (then_r (then_r (hit_r (blk_r (then_r (ret3 rfl rfl rfl rfl rfl ⟨rfl,T⟩))))))))
   replace hm:=cT c54 hm
   refine cond_f rfl (vbn rfl c54 rfl)<|wp_skip<|then_n<|wp_rs rfl<|RQ.y rfl (Y.move (v:=.int .i64 i27) s2_1)<|RQ.y rfl (Y.move (v:=.int .i64 y50.1) rfl) ?_
   obtain ⟨s55,ks55,hm⟩:=bnd hm
   replace ks55:=ck_some ks55
   refine RQ.y rfl (Y.binI (v:=.int .i64 s55) rfl rfl (by rw [binI_add ks55.2,ks55.1]))<|RQ.y rfl (Y.max rfl rfl)<|RQ.y rfl (Y.move (v:=.int .i64 i28) s3_1)<|RQ.y rfl (Y.move (v:=.int .i64 y50.2.1) rfl) ?_
   obtain ⟨s56,ks56,hm⟩:=bnd hm
   replace ks56:=ck_some ks56
   refine RQ.y rfl (Y.binI (v:=.int .i64 s56) rfl rfl (by rw [binI_add ks56.2,ks56.1]))<|RQ.y rfl (Y.assign (v:=.int .i64 (if s55 > i27 then s55 else i27)) rfl)<|RQ.y rfl (Y.assign (v:=.int .i64 s56) rfl)<|RQ.nil ?_
   refine blk_n (then_n ?_)
   refine wp_rs rfl<|RQ.y rfl (Y.binI s13_1 rfl (binI_add (m:=i30) (by omega)))<|RQ.y rfl (Y.move (v:=.int .i64 (i30+1)) rfl)<|RQ.nil ?_
   exact (then_n ⟨g,_,Nat.lt_succ_self _,rfl,⟨(if s55 > i27 then s55 else i27),s56,b29,(i30+1),s1_1,s11_1,s12_1,rfl,rfl,s4_1,rfl,(by omega),B3,T,(by rw [← hrec1]; exact hm)⟩⟩)
noncomputable def m_impl_ValidType (d0:DType):Option Bool:=
  ((m_impl_typeShape (SizeOf.sizeOf d0) d0).bind fun y6=>(bif y6.2.2 then (bif (decide (y6.1≤6)) then some (decide (y6.2.1≤16)) else some false) else some false))
set_option maxHeartbeats 2000000 in
theorem c_m_impl_ValidType (d0:DType) (r:Bool) (hm:m_impl_ValidType d0=some r) (v0:Value) (w:World) (hv0:St typeRd w v0 d0) :
    Calls Tryz.prog 207 #[v0] w fun e w'=>e=.returned (.bool r)∧Below w.heap.size w w':=by
  obtain ⟨csa0,rfl,hRR0⟩:=hv0
  obtain ⟨A1,n1,c1,rfl,⟨h1,r1⟩⟩:=(typeRd_out hRR0)
  have e1:=h1.len; subst e1
  have q1:=len_le r1
  have T:=Below.refl w.heap.size w
  unfold m_impl_ValidType at hm
  refine enter 21 Tryz.func207 rfl rfl rfl ?_
  intro f hf
  have s0:f 0=.agg #[.int .i64 d0.kind,.string d0.name,.slice A1 d0.kids.length c1]:=hf 0 _ rfl
  refine wp_seq<|wp_rl rfl ?_
  refine RL.box rfl s0 (fun w2 B3 hb4 szw2=>?_)
  replace B3:Blk w2 w.heap.size 114 #[.int .i64 d0.kind,.string d0.name,.slice A1 d0.kids.length c1]:=B3
  have GB3:w.heap.size≤w.heap.size:=T.size
  have T:=Tt T hb4
  refine RL.y rfl (Y.assign (v:=.bool false) rfl)<|RL.nil<|then_n<|wp_seq<|wp_rb rfl<|RQ.y rfl (Y.loadN (cs:=[.int .i64 d0.kind,.string d0.name,.slice A1 d0.kids.length c1]) rfl (by kernel_rfl) (cells3 (beC (blkCell B3 (i:=0) rfl)) (beC (blkCell B3 (i:=1) rfl)) (beC (blkCell B3 (i:=2) rfl)))) ?_
  obtain ⟨y6,e7,hm⟩:=bnd hm
  refine RQ.call rfl (am1 rfl) (by kernel_rfl) (v:=.tuple #[.int .i64 y6.1,.int .i64 y6.2.1,.bool y6.2.2]) (bel (K:=fun _=>True) fun w' hb'=>(c_m_impl_typeShape (SizeOf.sizeOf d0) d0 _ e7 _ w' (stArg (R:=typeRd) (typeRd_in ⟨_,_,_,rfl,⟨SlAt.now typeRd_ok h1 (Nat.le_refl _) (Tt T hb'),r1⟩⟩))))<|RQ.y rfl (Y.move (v:=.tuple #[.int .i64 y6.1,.int .i64 y6.2.1,.bool y6.2.2]) rfl)<|RQ.y rfl (Y.extract (i:=0) rfl rfl)<|RQ.y rfl (Y.extract (i:=1) rfl rfl)<|RQ.y rfl (Y.extract (i:=2) rfl rfl)<|RQ.y rfl (Y.assign (v:=.int .i64 y6.1) rfl)<|RQ.y rfl (Y.assign (v:=.int .i64 y6.2.1) rfl)<|RQ.y rfl (Y.assign (v:=.bool y6.2.2) rfl)<|RQ.nil ?_
  intro w8 hb9
  have szw8:=hb9.size
  have T:=Tt T hb9
  refine then_n<|wp_seq<|wp_rs rfl<|RQ.y rfl (Y.move (v:=.bool y6.2.2) rfl)<|RQ.y rfl (Y.move (v:=.bool y6.2.2) rfl) ?_
  rcases bcases y6.2.2 with c10|c10
  ·replace hm:=cF c10 hm
   refine RQ.skip (wantN (dj:=13) rfl (vb rfl c10) rfl)<|RQ.skip (wantN (dj:=13) rfl (vb rfl c10) rfl)<|RQ.y rfl (Y.pick (b:=false) (v:=.bool false) (vb rfl c10) rfl)<|RQ.y rfl (Y.move (v:=.bool false) rfl)<|RQ.skip (wantN (dj:=17) rfl rfl rfl)<|RQ.skip (wantN (dj:=17) rfl rfl rfl)<|RQ.y rfl (Y.pick (b:=false) (v:=.bool false) rfl rfl)<|RQ.y rfl (Y.assign (v:=.bool false) rfl)<|RQ.nil<|then_n<|wp_ret ?_
   obtain rfl:=sj hm
   exact (ret1 rfl rfl rfl ⟨rfl,T⟩)
  replace hm:=cT c10 hm
  refine RQ.y (wantT (dj:=13) rfl (vb rfl c10)) (Y.move (v:=.int .i64 y6.1) rfl)<|RQ.y (wantT (dj:=13) rfl (vb rfl c10)) (Y.binI (v:=.bool (decide (y6.1≤6))) rfl rfl rfl)<|RQ.y rfl (Y.pick (b:=true) (v:=.bool (decide (y6.1≤6))) (vb rfl c10) rfl)<|RQ.y rfl (Y.move (v:=.bool (decide (y6.1≤6))) rfl) ?_
  rcases bcases (decide (y6.1≤6)) with c11|c11
  ·replace hm:=cF c11 hm
   have pc11:=of_decide_eq_false c11
   refine RQ.skip (wantN (dj:=17) rfl (vb rfl c11) rfl)<|RQ.skip (wantN (dj:=17) rfl (vb rfl c11) rfl)<|RQ.y rfl (Y.pick (b:=false) (v:=.bool false) (vb rfl c11) rfl)<|RQ.y rfl (Y.assign (v:=.bool false) rfl)<|RQ.nil<|then_n<|wp_ret ?_
   obtain rfl:=sj hm
   exact (ret1 rfl rfl rfl ⟨rfl,T⟩)
  replace hm:=cT c11 hm
  have pc11:=of_decide_eq_true c11
  refine RQ.y (wantT (dj:=17) rfl (vb rfl c11)) (Y.move (v:=.int .i64 y6.2.1) rfl)<|RQ.y (wantT (dj:=17) rfl (vb rfl c11)) (Y.binI (v:=.bool (decide (y6.2.1≤16))) rfl rfl rfl)<|RQ.y rfl (Y.pick (b:=true) (v:=.bool (decide (y6.2.1≤16))) (vb rfl c11) rfl)<|RQ.y rfl (Y.assign (v:=.bool (decide (y6.2.1≤16))) rfl)<|RQ.nil<|then_n<|wp_ret ?_
  obtain rfl:=sj hm
  exact (ret1 rfl rfl rfl ⟨rfl,T⟩)
noncomputable def m_slices_IndexFunc_impl_Type_impl_Type_A1:Option Int:=
  some (-1)
noncomputable def m_slices_IndexFunc_impl_Type_impl_Type_B1 (d0:List DType) (d1:DType→Option Bool) (rec1:Int→Option Int) (K1:Option Int) (i2:Int):Option Int:=
  (bif (decide (i2 < (d0.length:Int))) then ((getI d0 i2).bind fun x5=>((d1 x5).bind fun y15=>(bif y15 then some i2 else (rec1 (i2+1))))) else (K1))
noncomputable def m_slices_IndexFunc_impl_Type_impl_Type_L1 (d0:List DType) (d1:DType→Option Bool) (K1:Option Int):Nat→Int→Option Int
  |0,_=>none
  |g+1,i2=>m_slices_IndexFunc_impl_Type_impl_Type_B1 d0 d1 (m_slices_IndexFunc_impl_Type_impl_Type_L1 d0 d1 K1 g) K1 i2
noncomputable def m_slices_IndexFunc_impl_Type_impl_Type (d0:List DType) (d1:DType→Option Bool):Option Int:=
  (m_slices_IndexFunc_impl_Type_impl_Type_L1 d0 d1 m_slices_IndexFunc_impl_Type_impl_Type_A1 (d0.length+1) 0)
set_option maxHeartbeats 2000000 in
theorem c_m_slices_IndexFunc_impl_Type_impl_Type (d0:List DType) (d1:DType→Option Bool) (r:Int) (hm:m_slices_IndexFunc_impl_Type_impl_Type d0 d1=some r) (v0:Value) (gf1:FuncId) (caps1:Array Value) (w:World) (hv0:Sl typeRd 3 w v0 d0) (hgo1:isGo Tryz.prog gf1=true) (hf1 :∀(x0:DType) (b:Bool),d1 x0=some b→∀w1,Below w.heap.size w w1→∀y0,St typeRd w1 y0 x0→Calls Tryz.prog gf1 (#[y0] ++ caps1) w1 fun e w2=>e=.returned (.bool b)∧Below w1.heap.size w1 w2) :
    Calls Tryz.prog 150 #[v0,.func (.func gf1) #[] caps1] w fun e w'=>e=.returned (.int .i64 r)∧Below w.heap.size w w':=by
  obtain ⟨Aa0,na0,ca0,rfl,ha0,ra0⟩:=hv0
  have ea0:=ha0.len; subst ea0
  have qa0:=len_le ra0
  have T:=Below.refl w.heap.size w
  unfold m_slices_IndexFunc_impl_Type_impl_Type at hm
  refine enter 19 Tryz.func150 rfl rfl rfl ?_
  intro f hf
  have s0:f 0=.slice Aa0 d0.length ca0:=hf 0 _ rfl
  have s1:f 1=.func (.func gf1) #[] caps1:=hf 1 _ rfl
  refine wp_seq<|wp_rs rfl<|RQ.y rfl (Y.assign (v:=.int .i64 0) rfl)<|RQ.nil<|then_n<|wp_seq<|wp_seq<|wp_rs rfl<|RQ.y rfl (Y.move (v:=.slice Aa0 d0.length ca0) s0)<|RQ.y rfl (Y.len (by kernel_rfl) rfl)<|RQ.y rfl (Y.move (v:=.int .i64 0) rfl)<|RQ.nil<|then_n<|wp_block ?_
  obtain ⟨K1,hK1,hm⟩ :∃K,K=m_slices_IndexFunc_impl_Type_impl_Type_A1∧m_slices_IndexFunc_impl_Type_impl_Type_L1 d0 d1 K (d0.length+1) 0=some r:=⟨_,rfl,hm⟩
  refine wp_loopX (fun g f w'=>∃(i2:Int),f 0=.slice Aa0 d0.length ca0∧f 1=.func (.func gf1) #[] caps1∧f 7=.int .i64 (d0.length:Int)∧f 8=.int .i64 i2∧0≤i2∧Below w.heap.size w w'∧m_slices_IndexFunc_impl_Type_impl_Type_L1 d0 d1 K1 g i2=some r) 0 (fun f w'=>Below w.heap.size w w'∧m_slices_IndexFunc_impl_Type_impl_Type_A1  = some r) (d0.length+1) ⟨0,s0,s1,rfl,rfl,(by omega),T,hm⟩ ?_ ?_
  ·rintro f w1 ⟨T,hm⟩
   unfold m_slices_IndexFunc_impl_Type_impl_Type_A1 at hm
   refine blk_hit (then_n ?_)
   refine wp_seq<|wp_rs rfl<|RQ.y rfl (Y.assign (v:=.int .i64 (-1)) rfl)<|RQ.nil<|then_n<|wp_ret ?_
   obtain rfl:=sj hm
   exact (ret1 rfl rfl rfl ⟨rfl,T⟩)
  rintro g f w3 ⟨i2,s0_1,s1_1,s7_1,s8_1,nn8_1,T,hm⟩
  rcases g with _|g
  ·simp only [m_slices_IndexFunc_impl_Type_impl_Type_L1] at hm; cases hm
  obtain ⟨rec1,hrec1,hm⟩ :∃z,z=m_slices_IndexFunc_impl_Type_impl_Type_L1 d0 d1 K1 g∧m_slices_IndexFunc_impl_Type_impl_Type_B1 d0 d1 z K1 i2=some r:=⟨_,rfl,hm⟩
  unfold m_slices_IndexFunc_impl_Type_impl_Type_B1 at hm
  refine wp_seq<|wp_rs rfl<|RQ.y rfl (Y.binI (v:=.bool (decide (i2 < (d0.length:Int)))) s8_1 s7_1 rfl)<|RQ.nil<|then_n<|wp_seq ?_
  rcases bcases (decide (i2 < (d0.length:Int))) with c4|c4
  ·replace hm:=cF c4 hm
   have pc4:=of_decide_eq_false c4
   refine cond_f rfl (vb rfl c4)<|wp_exit ?_
   exact (then_x (then_x (hit_x ⟨_,rfl,⟨T,(by rw [hK1] at hm; exact hm)⟩⟩)))
  replace hm:=cT c4 hm
  have pc4:=of_decide_eq_true c4
  refine cond_t rfl (vb rfl c4)<|wp_skip<|then_n<|wp_seq<|wp_block<|wp_seq<|wp_rs rfl<|RQ.y rfl (Y.move (v:=.int .i64 i2) s8_1)<|RQ.y rfl (Y.assign (v:=.int .i64 i2) rfl)<|RQ.nil<|then_n<|wp_seq<|wp_rb rfl<|RQ.y rfl (Y.move (v:=.func (.func gf1) #[] caps1) s1_1)<|RQ.y rfl (Y.move (v:=.slice Aa0 d0.length ca0) s0_1)<|RQ.y rfl (Y.move (v:=.int .i64 i2) rfl) ?_
  obtain ⟨x5,hx8,hm⟩:=bnd hm
  obtain ⟨k6,hk9,hl10,hx8⟩:=getI_some hx8
  obtain ⟨b12,o13,rfl,hbb12⟩:=ha0.addr (by omega)
  obtain ⟨cs7,hRcs7,hc11⟩:=ha0.el hx8
  have hScs7:=hRcs7
  obtain ⟨A14,n14,c14,rfl,⟨h14,r14⟩⟩:=(typeRd_out hRcs7)
  have e14:=h14.len; subst e14
  have q14:=len_le r14
  refine RQ.y rfl (Y.indexAddr (m:=k6) (sz:=3) rfl rfl hk9 hl10 (by kernel_rfl))<|RQ.y rfl (Y.loadN (cs:=[.int .i64 x5.kind,.string x5.name,.slice A14 x5.kids.length c14]) rfl (by kernel_rfl) (cells3 (beC (cellT T (hc11 0 _ rfl))) (beC (cellT T (hc11 1 _ rfl))) (beC (cellT T (hc11 2 _ rfl))))) ?_
  obtain ⟨y15,e16,hm⟩:=bnd hm
  refine RQ.callV rfl rfl (am1 rfl) hgo1 (v:=.bool y15) (bel (K:=fun _=>True) fun w' hb'=>hf1 x5 y15 e16 w' (Tt T hb') _ (stArg (R:=typeRd) (typeRd_in ⟨_,_,_,rfl,⟨SlAt.now typeRd_ok h14 (Nat.le_refl _) (Tt T hb'),r14⟩⟩)))<|RQ.nil ?_
  intro w17 hb18
  have szw17:=hb18.size
  have T:=Tt T hb18
  refine then_n ?_
  rcases bcases y15 with c19|c19
  ·replace hm:=cF c19 hm
   refine cond_f rfl (vb rfl c19)<|wp_skip ?_
   refine blk_n (then_n ?_)
   refine wp_rs rfl<|RQ.y rfl (Y.binI s8_1 rfl (binI_add (m:=i2) (by omega)))<|RQ.y rfl (Y.move (v:=.int .i64 (i2+1)) rfl)<|RQ.nil ?_
   exact (then_n ⟨g,_,Nat.lt_succ_self _,rfl,⟨(i2+1),s0_1,s1_1,s7_1,rfl,(by omega),T,(by rw [← hrec1]; exact hm)⟩⟩)
  replace hm:=cT c19 hm
  refine cond_t rfl (vb rfl c19)<|wp_seq<|wp_rs rfl<|RQ.y rfl (Y.move (v:=.int .i64 i2) rfl)<|RQ.y rfl (Y.assign (v:=.int .i64 i2) rfl)<|RQ.nil<|then_n<|wp_ret ?_
  obtain rfl:=sj hm
  exact (blk_r (then_r (then_r (hit_r (blk_r (then_r (ret1 rfl rfl rfl ⟨rfl,T⟩)))))))
noncomputable def m_slices_ContainsFunc_impl_Type_impl_Type (d0:List DType) (d1:DType→Option Bool):Option Bool:=
  ((m_slices_IndexFunc_impl_Type_impl_Type d0 d1).bind fun y1=>some (decide (y1 ≥ 0)))
set_option maxHeartbeats 2000000 in
theorem c_m_slices_ContainsFunc_impl_Type_impl_Type (d0:List DType) (d1:DType→Option Bool) (r:Bool) (hm:m_slices_ContainsFunc_impl_Type_impl_Type d0 d1=some r) (v0:Value) (gf1:FuncId) (caps1:Array Value) (w:World) (hv0:Sl typeRd 3 w v0 d0) (hgo1:isGo Tryz.prog gf1=true) (hf1 :∀(x0:DType) (b:Bool),d1 x0=some b→∀w1,Below w.heap.size w w1→∀y0,St typeRd w1 y0 x0→Calls Tryz.prog gf1 (#[y0] ++ caps1) w1 fun e w2=>e=.returned (.bool b)∧Below w1.heap.size w1 w2) :
    Calls Tryz.prog 92 #[v0,.func (.func gf1) #[] caps1] w fun e w'=>e=.returned (.bool r)∧Below w.heap.size w w':=by
  obtain ⟨Aa0,na0,ca0,rfl,ha0,ra0⟩:=hv0
  have ea0:=ha0.len; subst ea0
  have qa0:=len_le ra0
  have T:=Below.refl w.heap.size w
  unfold m_slices_ContainsFunc_impl_Type_impl_Type at hm
  refine enter 9 Tryz.func92 rfl rfl rfl ?_
  intro f hf
  have s0:f 0=.slice Aa0 d0.length ca0:=hf 0 _ rfl
  have s1:f 1=.func (.func gf1) #[] caps1:=hf 1 _ rfl
  refine wp_seq<|wp_rs rfl<|RQ.y rfl (Y.assign (v:=.bool false) rfl)<|RQ.nil<|then_n<|wp_seq<|wp_rb rfl<|RQ.y rfl (Y.move (v:=.slice Aa0 d0.length ca0) s0)<|RQ.y rfl (Y.move (v:=.func (.func gf1) #[] caps1) s1) ?_
  obtain ⟨y1,e2,hm⟩:=bnd hm
  refine RQ.call rfl (am2 rfl rfl) (by kernel_rfl) (v:=.int .i64 y1) (bel (K:=fun _=>True) fun w' hb'=>(c_m_slices_IndexFunc_impl_Type_impl_Type d0 d1 _ e2 _ _ _ w' (slArg typeRd_ok ha0 ra0 (Tt T hb')) hgo1 (fun x0 b hx w1 hb1 y0 hy0=>hf1 x0 b hx w1 (Tt (Tt T hb') hb1) y0 hy0)))<|RQ.y rfl (Y.binI (v:=.bool (decide (y1 ≥ 0))) rfl rfl rfl)<|RQ.y rfl (Y.assign (v:=.bool (decide (y1 ≥ 0))) rfl)<|RQ.nil ?_
  intro w3 hb4
  have szw3:=hb4.size
  have T:=Tt T hb4
  refine then_n<|wp_ret ?_
  obtain rfl:=sj hm
  exact (ret1 rfl rfl rfl ⟨rfl,T⟩)
noncomputable def m_impl_declared_R (self0:(List DData)→DType→Option Bool) (self1:DType→(List DData)→Option Bool) (d0:List DData) (d1:DType):Option Bool:=
  (bif (d1.kind==2) then ((m_impl_findData d0 d1.name).bind fun y17=>(bif (decide (y17 < 0)) then some false else ((m_slices_ContainsFunc_impl_Type_impl_Type d1.kids (fun x0=>self1 x0 d0)).bind fun y22=>some (!y22)))) else ((m_slices_ContainsFunc_impl_Type_impl_Type d1.kids (fun x0=>self1 x0 d0)).bind fun y13=>some (!y13)))
set_option maxHeartbeats 2000000 in
theorem c_m_impl_declared_S (self0:(List DData)→DType→Option Bool) (self1:DType→(List DData)→Option Bool) (ih0 :∀(d0:List DData) (d1:DType) (r:Bool) (hm:self0 d0 d1=some r) (v0:Value) (v1:Value) (w:World) (hv0:Sl dataRd 2 w v0 d0) (hv1:St typeRd w v1 d1),Calls Tryz.prog 208 #[v0,v1] w fun e w'=>e=.returned (.bool r)∧Below w.heap.size w w') (ih1 :∀(d0:DType) (d1:List DData) (r:Bool) (hm:self1 d0 d1=some r) (v0:Value) (v1:Value) (w:World) (hv0:St typeRd w v0 d0) (hv1:Pt (slRd dataRd 2) w v1 d1),Calls Tryz.prog 240 #[v0,v1] w fun e w'=>e=.returned (.bool r)∧Below w.heap.size w w') :∀(d0:List DData) (d1:DType) (r:Bool) (hm:m_impl_declared_R self0 self1 d0 d1=some r) (v0:Value) (v1:Value) (w:World) (hv0:Sl dataRd 2 w v0 d0) (hv1:St typeRd w v1 d1),
    Calls Tryz.prog 208 #[v0,v1] w fun e w'=>e=.returned (.bool r)∧Below w.heap.size w w':=by
  intro d0 d1 r hm v0 v1 w hv0 hv1
  obtain ⟨Aa0,na0,ca0,rfl,ha0,ra0⟩:=hv0
  have ea0:=ha0.len; subst ea0
  have qa0:=len_le ra0
  obtain ⟨csa1,rfl,hRR1⟩:=hv1
  obtain ⟨A1,n1,c1,rfl,⟨h1,r1⟩⟩:=(typeRd_out hRR1)
  have e1:=h1.len; subst e1
  have q1:=len_le r1
  have T:=Below.refl w.heap.size w
  unfold m_impl_declared_R at hm
  refine enter 20 Tryz.func208 rfl rfl rfl ?_
  intro f hf
  have s0:f 0=.slice Aa0 d0.length ca0:=hf 0 _ rfl
  have s1:f 1=.agg #[.int .i64 d1.kind,.string d1.name,.slice A1 d1.kids.length c1]:=hf 1 _ rfl
  refine wp_seq<|wp_rl rfl ?_
  refine RL.box rfl s0 (fun w2 B3 hb4 szw2=>?_)
  replace B3:Blk w2 w.heap.size 35 #[.slice Aa0 d0.length ca0]:=B3
  have GB3:w.heap.size≤w.heap.size:=T.size
  have T:=Tt T hb4
  refine RL.box rfl s1 (fun w6 B7 hb8 szw6=>?_)
  replace B7:Blk w6 w2.heap.size 114 #[.int .i64 d1.kind,.string d1.name,.slice A1 d1.kids.length c1]:=B7
  have GB7:w.heap.size≤w2.heap.size:=T.size
  have Eob9_ob5:=Nat.ne_of_lt B3.lt
  have B3:=blkT B3 hb8
  have T:=Tt T hb8
  refine RL.y rfl (Y.assign (v:=.bool false) rfl)<|RL.nil<|then_n<|wp_seq<|wp_seq<|wp_rb rfl<|RQ.y rfl (Y.fieldAddr (off:=0) rfl (by kernel_rfl))<|RQ.y rfl (Y.load (v:=.int .i64 d1.kind) rfl (by kernel_rfl) (beC (blkCell B7 (i:=0) rfl)))<|RQ.y rfl (Y.binI (v:=.bool (d1.kind==2)) rfl rfl rfl)<|RQ.y rfl (Y.move (v:=.bool (d1.kind==2)) rfl) ?_
  rcases bcases (d1.kind==2) with c10|c10
  ·replace hm:=cF c10 hm
   iterate 5 refine RQ.skip (wantN (dj:=8) rfl (vb rfl c10) rfl) ?_
   refine RQ.y rfl (Y.pick (b:=false) (v:=.bool false) (vb rfl c10) rfl)<|RQ.nil ?_
   intro w11 hb12
   have szw11:=hb12.size
   have B3:=blkT B3 hb12
   have B7:=blkT B7 hb12
   have T:=Tt T hb12
   refine then_n<|cond_f rfl rfl<|wp_skip<|then_n<|wp_seq<|wp_rb rfl<|RQ.y rfl (Y.fieldAddr (off:=2) rfl (by kernel_rfl))<|RQ.y rfl (Y.load (v:=.slice A1 d1.kids.length c1) rfl (by kernel_rfl) (beC (blkCell B7 (i:=2) rfl)))<|RQ.y rfl (Y.makeFunc (vals:=#[.pointer (some ⟨w.heap.size,0,none⟩)]) (am1 rfl)) ?_
   obtain ⟨y13,e14,hm⟩:=bnd hm
   refine RQ.call rfl (am2 rfl rfl) (by kernel_rfl) (v:=.bool y13) (bel (K:=fun _=>True) fun w' hb'=>(c_m_slices_ContainsFunc_impl_Type_impl_Type d1.kids (fun x0=>self1 x0 d0) _ e14 _ _ _ w' (slArg typeRd_ok h1 r1 (Tt T hb')) (by kernel_rfl) (fun x0 b hx w1 hb1 y0 hy0=>Calls.arr (by simp) (ih1 x0 d0 _ hx _ _ w1 hy0 (ptBox (R:=(slRd dataRd 2)) (blkT B3 (Tt hb' hb1)) ⟨_,_,_,rfl,SlAt.now dataRd_ok ha0 (Nat.le_refl _) (Tt (Tt T hb') hb1),ra0⟩)))))<|RQ.y rfl (Y.not (b':=(!y13)) rfl rfl)<|RQ.y rfl (Y.assign (v:=.bool (!y13)) rfl)<|RQ.nil ?_
   intro w15 hb16
   have szw15:=hb16.size
   have T:=Tt T hb16
   refine then_n<|wp_ret ?_
   obtain rfl:=sj hm
   exact (ret1 rfl rfl rfl ⟨rfl,T⟩)
  replace hm:=cT c10 hm
  refine RQ.y (wantT (dj:=8) rfl (vb rfl c10)) (Y.load (v:=.slice Aa0 d0.length ca0) rfl (by kernel_rfl) (beC (blkCell B3 (i:=0) rfl)))<|RQ.y (wantT (dj:=8) rfl (vb rfl c10)) (Y.fieldAddr (off:=1) rfl (by kernel_rfl))<|RQ.y (wantT (dj:=8) rfl (vb rfl c10)) (Y.load (v:=.string d1.name) rfl (by kernel_rfl) (beC (blkCell B7 (i:=1) rfl))) ?_
  obtain ⟨y17,e18,hm⟩:=bnd hm
  refine RQ.call (wantT (dj:=8) rfl (vb rfl c10)) (am2 rfl rfl) (by kernel_rfl) (v:=.int .i64 y17) (bel (K:=fun _=>True) fun w' hb'=>(c_m_impl_findData d0 d1.name _ e18 _ w' (slArg dataRd_ok ha0 ra0 (Tt T hb'))))<|RQ.y (wantT (dj:=8) rfl (vb rfl c10)) (Y.binI (v:=.bool (decide (y17 < 0))) rfl rfl rfl)<|RQ.y rfl (Y.pick (b:=true) (v:=.bool (decide (y17 < 0))) (vb rfl c10) rfl)<|RQ.nil ?_
  intro w19 hb20
  have szw19:=hb20.size
  have B3:=blkT B3 hb20
  have B7:=blkT B7 hb20
  have T:=Tt T hb20
  refine then_n ?_
  rcases bcases (decide (y17 < 0)) with c21|c21
  ·replace hm:=cF c21 hm
   have pc21:=of_decide_eq_false c21
   refine cond_f rfl (vb rfl c21)<|wp_skip<|then_n<|wp_seq<|wp_rb rfl<|RQ.y rfl (Y.fieldAddr (off:=2) rfl (by kernel_rfl))<|RQ.y rfl (Y.load (v:=.slice A1 d1.kids.length c1) rfl (by kernel_rfl) (beC (blkCell B7 (i:=2) rfl)))<|RQ.y rfl (Y.makeFunc (vals:=#[.pointer (some ⟨w.heap.size,0,none⟩)]) (am1 rfl)) ?_
   obtain ⟨y22,e23,hm⟩:=bnd hm
   refine RQ.call rfl (am2 rfl rfl) (by kernel_rfl) (v:=.bool y22) (bel (K:=fun _=>True) fun w' hb'=>(c_m_slices_ContainsFunc_impl_Type_impl_Type d1.kids (fun x0=>self1 x0 d0) _ e23 _ _ _ w' (slArg typeRd_ok h1 r1 (Tt T hb')) (by kernel_rfl) (fun x0 b hx w1 hb1 y0 hy0=>Calls.arr (by simp) (ih1 x0 d0 _ hx _ _ w1 hy0 (ptBox (R:=(slRd dataRd 2)) (blkT B3 (Tt hb' hb1)) ⟨_,_,_,rfl,SlAt.now dataRd_ok ha0 (Nat.le_refl _) (Tt (Tt T hb') hb1),ra0⟩)))))<|RQ.y rfl (Y.not (b':=(!y22)) rfl rfl)<|RQ.y rfl (Y.assign (v:=.bool (!y22)) rfl)<|RQ.nil ?_
   intro w24 hb25
   have szw24:=hb25.size
   have T:=Tt T hb25
   refine then_n<|wp_ret ?_
   obtain rfl:=sj hm
   exact (ret1 rfl rfl rfl ⟨rfl,T⟩)
  replace hm:=cT c21 hm
  have pc21:=of_decide_eq_true c21
  refine cond_t rfl (vb rfl c21)<|wp_seq<|wp_rs rfl<|RQ.y rfl (Y.assign (v:=.bool false) rfl)<|RQ.nil<|then_n<|wp_ret ?_
  obtain rfl:=sj hm
  exact (then_r (ret1 rfl rfl rfl ⟨rfl,T⟩))
noncomputable def m_impl_declared_1_R (self0:(List DData)→DType→Option Bool) (self1:DType→(List DData)→Option Bool) (d0:DType) (d1:List DData):Option Bool:=
  ((self0 d1 d0).bind fun y7=>some (!y7))
set_option maxHeartbeats 2000000 in
theorem c_m_impl_declared_1_S (self0:(List DData)→DType→Option Bool) (self1:DType→(List DData)→Option Bool) (ih0 :∀(d0:List DData) (d1:DType) (r:Bool) (hm:self0 d0 d1=some r) (v0:Value) (v1:Value) (w:World) (hv0:Sl dataRd 2 w v0 d0) (hv1:St typeRd w v1 d1),Calls Tryz.prog 208 #[v0,v1] w fun e w'=>e=.returned (.bool r)∧Below w.heap.size w w') (ih1 :∀(d0:DType) (d1:List DData) (r:Bool) (hm:self1 d0 d1=some r) (v0:Value) (v1:Value) (w:World) (hv0:St typeRd w v0 d0) (hv1:Pt (slRd dataRd 2) w v1 d1),Calls Tryz.prog 240 #[v0,v1] w fun e w'=>e=.returned (.bool r)∧Below w.heap.size w w') :∀(d0:DType) (d1:List DData) (r:Bool) (hm:m_impl_declared_1_R self0 self1 d0 d1=some r) (v0:Value) (v1:Value) (w:World) (hv0:St typeRd w v0 d0) (hv1:Pt (slRd dataRd 2) w v1 d1),
    Calls Tryz.prog 240 #[v0,v1] w fun e w'=>e=.returned (.bool r)∧Below w.heap.size w w':=by
  intro d0 d1 r hm v0 v1 w hv0 hv1
  obtain ⟨csa0,rfl,hRR0⟩:=hv0
  obtain ⟨A1,n1,c1,rfl,⟨h1,r1⟩⟩:=(typeRd_out hRR0)
  have e1:=h1.len; subst e1
  have q1:=len_le r1
  obtain ⟨ba1,oa1,csa1,rfl,hba1,hRa1,hca1⟩:=hv1
  have hSa1:=hRa1
  obtain ⟨A2,n2,c2,rfl,h2,r2⟩:=hRa1
  have e2:=h2.len; subst e2
  have q2:=len_le r2
  have T:=Below.refl w.heap.size w
  unfold m_impl_declared_1_R at hm
  refine enter 8 Tryz.func240 rfl rfl rfl ?_
  intro f hf
  have s0:f 0=.agg #[.int .i64 d0.kind,.string d0.name,.slice A1 d0.kids.length c1]:=hf 0 _ rfl
  have s1:f 1=.pointer (some ⟨ba1,oa1,none⟩):=hf 1 _ rfl
  refine wp_seq<|wp_rl rfl ?_
  refine RL.box rfl s0 (fun w3 B4 hb5 szw3=>?_)
  replace B4:Blk w3 w.heap.size 114 #[.int .i64 d0.kind,.string d0.name,.slice A1 d0.kids.length c1]:=B4
  have GB4:w.heap.size≤w.heap.size:=T.size
  have T:=Tt T hb5
  refine RL.y rfl (Y.assign (v:=.bool false) rfl)<|RL.nil<|then_n<|wp_seq<|wp_rb rfl<|RQ.y rfl (Y.load (v:=.slice A2 d1.length c2) s1 (by kernel_rfl) (beC (cellT T (hca1 0 _ rfl))))<|RQ.y rfl (Y.loadN (cs:=[.int .i64 d0.kind,.string d0.name,.slice A1 d0.kids.length c1]) rfl (by kernel_rfl) (cells3 (beC (blkCell B4 (i:=0) rfl)) (beC (blkCell B4 (i:=1) rfl)) (beC (blkCell B4 (i:=2) rfl)))) ?_
  obtain ⟨y7,e8,hm⟩:=bnd hm
  refine RQ.call rfl (am2 rfl rfl) (by kernel_rfl) (v:=.bool y7) (bel (K:=fun _=>True) fun w' hb'=>(ih0 d1 d0 _ e8 _ _ w' (slArg dataRd_ok h2 r2 (Tt T hb')) (stArg (R:=typeRd) (typeRd_in ⟨_,_,_,rfl,⟨SlAt.now typeRd_ok h1 (Nat.le_refl _) (Tt T hb'),r1⟩⟩))))<|RQ.y rfl (Y.not (b':=(!y7)) rfl rfl)<|RQ.y rfl (Y.assign (v:=.bool (!y7)) rfl)<|RQ.nil ?_
  intro w9 hb10
  have szw9:=hb10.size
  have T:=Tt T hb10
  refine then_n<|wp_ret ?_
  obtain rfl:=sj hm
  exact (ret1 rfl rfl rfl ⟨rfl,T⟩)
noncomputable def g_m_impl_declared:Nat→((List DData)→DType→Option Bool) × (DType→(List DData)→Option Bool)
  |0=>(fun _ _=>none,fun _ _=>none)
  |gas+1=>(m_impl_declared_R (g_m_impl_declared gas).1 (g_m_impl_declared gas).2,m_impl_declared_1_R (g_m_impl_declared gas).1 (g_m_impl_declared gas).2)
noncomputable def m_impl_declared (gas:Nat):(List DData)→DType→Option Bool:=(g_m_impl_declared gas).1
noncomputable def m_impl_declared_1 (gas:Nat):DType→(List DData)→Option Bool:=(g_m_impl_declared gas).2
theorem c_g_m_impl_declared :∀gas:Nat,(∀(d0:List DData) (d1:DType) (r:Bool) (hm:m_impl_declared gas d0 d1=some r) (v0:Value) (v1:Value) (w:World) (hv0:Sl dataRd 2 w v0 d0) (hv1:St typeRd w v1 d1),Calls Tryz.prog 208 #[v0,v1] w fun e w'=>e=.returned (.bool r)∧Below w.heap.size w w')∧(∀(d0:DType) (d1:List DData) (r:Bool) (hm:m_impl_declared_1 gas d0 d1=some r) (v0:Value) (v1:Value) (w:World) (hv0:St typeRd w v0 d0) (hv1:Pt (slRd dataRd 2) w v1 d1),Calls Tryz.prog 240 #[v0,v1] w fun e w'=>e=.returned (.bool r)∧Below w.heap.size w w'):=by
  intro gas
  induction gas with
  |zero=>exact ⟨(fun _ _ r hm=>by have h0:(none:Option _)=some r:=hm; cases h0),(fun _ _ r hm=>by have h0:(none:Option _)=some r:=hm; cases h0)⟩
  |succ gas ih=>exact ⟨c_m_impl_declared_S _ _ (ih).1 (ih).2,c_m_impl_declared_1_S _ _ (ih).1 (ih).2⟩
theorem c_m_impl_declared (gas : Nat) : ∀ (d0 : List DData) (d1 : DType) (r : Bool) (hm : m_impl_declared gas d0 d1 = some r) (v0 : Value) (v1 : Value) (w : World) (hv0 : Sl dataRd 2 w v0 d0) (hv1 : St typeRd w v1 d1), Calls Tryz.prog 208 #[v0, v1] w fun e w' => e = .returned (.bool r) ∧ Below w.heap.size w w' := (c_g_m_impl_declared gas).1
noncomputable def m_impl_validConstructor_1 (d0:DType) (d1:List DData):Option Bool:=
  ((m_impl_ValidType d0).bind fun y7=>(bif y7 then ((m_impl_declared (SizeOf.sizeOf d0) d1 d0).bind fun y12=>some (!y12)) else some true))
set_option maxHeartbeats 2000000 in
theorem c_m_impl_validConstructor_1 (d0:DType) (d1:List DData) (r:Bool) (hm:m_impl_validConstructor_1 d0 d1=some r) (v0:Value) (v1:Value) (w:World) (hv0:St typeRd w v0 d0) (hv1:Pt (slRd dataRd 2) w v1 d1) :
    Calls Tryz.prog 206 #[v0,v1] w fun e w'=>e=.returned (.bool r)∧Below w.heap.size w w':=by
  obtain ⟨csa0,rfl,hRR0⟩:=hv0
  obtain ⟨A1,n1,c1,rfl,⟨h1,r1⟩⟩:=(typeRd_out hRR0)
  have e1:=h1.len; subst e1
  have q1:=len_le r1
  obtain ⟨ba1,oa1,csa1,rfl,hba1,hRa1,hca1⟩:=hv1
  have hSa1:=hRa1
  obtain ⟨A2,n2,c2,rfl,h2,r2⟩:=hRa1
  have e2:=h2.len; subst e2
  have q2:=len_le r2
  have T:=Below.refl w.heap.size w
  unfold m_impl_validConstructor_1 at hm
  refine enter 13 Tryz.func206 rfl rfl rfl ?_
  intro f hf
  have s0:f 0=.agg #[.int .i64 d0.kind,.string d0.name,.slice A1 d0.kids.length c1]:=hf 0 _ rfl
  have s1:f 1=.pointer (some ⟨ba1,oa1,none⟩):=hf 1 _ rfl
  refine wp_seq<|wp_rl rfl ?_
  refine RL.box rfl s0 (fun w3 B4 hb5 szw3=>?_)
  replace B4:Blk w3 w.heap.size 114 #[.int .i64 d0.kind,.string d0.name,.slice A1 d0.kids.length c1]:=B4
  have GB4:w.heap.size≤w.heap.size:=T.size
  have T:=Tt T hb5
  refine RL.y rfl (Y.assign (v:=.bool false) rfl)<|RL.nil<|then_n<|wp_seq<|wp_rb rfl<|RQ.y rfl (Y.loadN (cs:=[.int .i64 d0.kind,.string d0.name,.slice A1 d0.kids.length c1]) rfl (by kernel_rfl) (cells3 (beC (blkCell B4 (i:=0) rfl)) (beC (blkCell B4 (i:=1) rfl)) (beC (blkCell B4 (i:=2) rfl)))) ?_
  obtain ⟨y7,e8,hm⟩:=bnd hm
  refine RQ.call rfl (am1 rfl) (by kernel_rfl) (v:=.bool y7) (bel (K:=fun _=>True) fun w' hb'=>(c_m_impl_ValidType d0 _ e8 _ w' (stArg (R:=typeRd) (typeRd_in ⟨_,_,_,rfl,⟨SlAt.now typeRd_ok h1 (Nat.le_refl _) (Tt T hb'),r1⟩⟩))))<|RQ.y rfl (Y.not (b':=(!y7)) rfl rfl)<|RQ.y rfl (Y.move (v:=.bool (!y7)) rfl) ?_
  rcases bcases y7 with c9|c9
  ·replace hm:=cF c9 hm
   iterate 4 refine RQ.skip (wantN (dj:=7) rfl (vbn rfl c9 rfl) rfl) ?_
   refine RQ.y rfl (Y.pick (b:=true) (v:=.bool true) (vbn rfl c9 rfl) rfl)<|RQ.y rfl (Y.assign (v:=.bool true) rfl)<|RQ.nil ?_
   intro w10 hb11
   have szw10:=hb11.size
   have T:=Tt T hb11
   refine then_n<|wp_ret ?_
   obtain rfl:=sj hm
   exact (ret1 rfl rfl rfl ⟨rfl,T⟩)
  replace hm:=cT c9 hm
  refine RQ.y (wantT (dj:=7) rfl (vbn rfl c9 rfl)) (Y.load (v:=.slice A2 d1.length c2) s1 (by kernel_rfl) (beC (cellT T (hca1 0 _ rfl))))<|RQ.y (wantT (dj:=7) rfl (vbn rfl c9 rfl)) (Y.loadN (cs:=[.int .i64 d0.kind,.string d0.name,.slice A1 d0.kids.length c1]) rfl (by kernel_rfl) (cells3 (beC (blkCell B4 (i:=0) rfl)) (beC (blkCell B4 (i:=1) rfl)) (beC (blkCell B4 (i:=2) rfl)))) ?_
  obtain ⟨y12,e13,hm⟩:=bnd hm
  refine RQ.call (wantT (dj:=7) rfl (vbn rfl c9 rfl)) (am2 rfl rfl) (by kernel_rfl) (v:=.bool y12) (bel (K:=fun _=>True) fun w' hb'=>(c_m_impl_declared (SizeOf.sizeOf d0) d1 d0 _ e13 _ _ w' (slArg dataRd_ok h2 r2 (Tt T hb')) (stArg (R:=typeRd) (typeRd_in ⟨_,_,_,rfl,⟨SlAt.now typeRd_ok h1 (Nat.le_refl _) (Tt T hb'),r1⟩⟩))))<|RQ.y (wantT (dj:=7) rfl (vbn rfl c9 rfl)) (Y.not (b':=(!y12)) rfl rfl)<|RQ.y rfl (Y.pick (b:=false) (v:=.bool (!y12)) (vbn rfl c9 rfl) rfl)<|RQ.y rfl (Y.assign (v:=.bool (!y12)) rfl)<|RQ.nil ?_
  intro w14 hb15
  have szw14:=hb15.size
  have T:=Tt T hb15
  refine then_n<|wp_ret ?_
  obtain rfl:=sj hm
  exact (ret1 rfl rfl rfl ⟨rfl,T⟩)
noncomputable def m_impl_validConstructor (d0:List DData) (d1:DConstructor):Option Bool:=
  ((m_impl_IsUpper d1.name).bind fun y10=>(bif y10 then (bif (decide ((d1.fields.length:Int) > 3)) then some false else ((m_slices_ContainsFunc_impl_Type_impl_Type d1.fields (fun x0=>m_impl_validConstructor_1 x0 d0)).bind fun y18=>some (!y18))) else some false))
set_option maxHeartbeats 2000000 in
theorem c_m_impl_validConstructor (d0:List DData) (d1:DConstructor) (r:Bool) (hm:m_impl_validConstructor d0 d1=some r) (v0:Value) (v1:Value) (w:World) (hv0:Sl dataRd 2 w v0 d0) (hv1:St constructorRd w v1 d1) :
    Calls Tryz.prog 149 #[v0,v1] w fun e w'=>e=.returned (.bool r)∧Below w.heap.size w w':=by
  obtain ⟨Aa0,na0,ca0,rfl,ha0,ra0⟩:=hv0
  have ea0:=ha0.len; subst ea0
  have qa0:=len_le ra0
  obtain ⟨csa1,rfl,⟨A1,n1,c1,rfl,⟨h1,r1⟩⟩⟩:=hv1
  have e1:=h1.len; subst e1
  have q1:=len_le r1
  have T:=Below.refl w.heap.size w
  unfold m_impl_validConstructor at hm
  refine enter 20 Tryz.func149 rfl rfl rfl ?_
  intro f hf
  have s0:f 0=.slice Aa0 d0.length ca0:=hf 0 _ rfl
  have s1:f 1=.agg #[.string d1.name,.slice A1 d1.fields.length c1]:=hf 1 _ rfl
  refine wp_seq<|wp_rl rfl ?_
  refine RL.box rfl s0 (fun w2 B3 hb4 szw2=>?_)
  replace B3:Blk w2 w.heap.size 35 #[.slice Aa0 d0.length ca0]:=B3
  have GB3:w.heap.size≤w.heap.size:=T.size
  have T:=Tt T hb4
  refine RL.box rfl s1 (fun w6 B7 hb8 szw6=>?_)
  replace B7:Blk w6 w2.heap.size 173 #[.string d1.name,.slice A1 d1.fields.length c1]:=B7
  have GB7:w.heap.size≤w2.heap.size:=T.size
  have Eob9_ob5:=Nat.ne_of_lt B3.lt
  have B3:=blkT B3 hb8
  have T:=Tt T hb8
  refine RL.y rfl (Y.assign (v:=.bool false) rfl)<|RL.nil<|then_n<|wp_seq<|wp_seq<|wp_rb rfl<|RQ.y rfl (Y.fieldAddr (off:=0) rfl (by kernel_rfl))<|RQ.y rfl (Y.load (v:=.string d1.name) rfl (by kernel_rfl) (beC (blkCell B7 (i:=0) rfl))) ?_
  obtain ⟨y10,e11,hm⟩:=bnd hm
  refine RQ.call rfl (am1 rfl) (by kernel_rfl) (v:=.bool y10) (bel (K:=fun _=>True) fun w' hb'=>(c_m_impl_IsUpper d1.name _ e11  w' ))<|RQ.y rfl (Y.not (b':=(!y10)) rfl rfl)<|RQ.y rfl (Y.move (v:=.bool (!y10)) rfl) ?_
  rcases bcases y10 with c12|c12
  ·replace hm:=cF c12 hm
   iterate 4 refine RQ.skip (wantN (dj:=9) rfl (vbn rfl c12 rfl) rfl) ?_
   refine RQ.y rfl (Y.pick (b:=true) (v:=.bool true) (vbn rfl c12 rfl) rfl)<|RQ.nil ?_
   intro w13 hb14
   have szw13:=hb14.size
   have B3:=blkT B3 hb14
   have B7:=blkT B7 hb14
   have T:=Tt T hb14
   refine then_n<|cond_t rfl rfl<|wp_seq<|wp_rs rfl<|RQ.y rfl (Y.assign (v:=.bool false) rfl)<|RQ.nil<|then_n<|wp_ret ?_
   obtain rfl:=sj hm
   exact (then_r (ret1 rfl rfl rfl ⟨rfl,T⟩))
  replace hm:=cT c12 hm
  refine RQ.y (wantT (dj:=9) rfl (vbn rfl c12 rfl)) (Y.fieldAddr (off:=1) rfl (by kernel_rfl))<|RQ.y (wantT (dj:=9) rfl (vbn rfl c12 rfl)) (Y.load (v:=.slice A1 d1.fields.length c1) rfl (by kernel_rfl) (beC (blkCell B7 (i:=1) rfl)))<|RQ.y (wantT (dj:=9) rfl (vbn rfl c12 rfl)) (Y.len (by kernel_rfl) rfl)<|RQ.y (wantT (dj:=9) rfl (vbn rfl c12 rfl)) (Y.binI (v:=.bool (decide ((d1.fields.length:Int) > 3))) rfl rfl rfl)<|RQ.y rfl (Y.pick (b:=false) (v:=.bool (decide ((d1.fields.length:Int) > 3))) (vbn rfl c12 rfl) rfl)<|RQ.nil ?_
  intro w15 hb16
  have szw15:=hb16.size
  have B3:=blkT B3 hb16
  have B7:=blkT B7 hb16
  have T:=Tt T hb16
  refine then_n ?_
  rcases bcases (decide ((d1.fields.length:Int) > 3)) with c17|c17
  ·replace hm:=cF c17 hm
   have pc17:=of_decide_eq_false c17
   refine cond_f rfl (vb rfl c17)<|wp_skip<|then_n<|wp_seq<|wp_rb rfl<|RQ.y rfl (Y.fieldAddr (off:=1) rfl (by kernel_rfl))<|RQ.y rfl (Y.load (v:=.slice A1 d1.fields.length c1) rfl (by kernel_rfl) (beC (blkCell B7 (i:=1) rfl)))<|RQ.y rfl (Y.makeFunc (vals:=#[.pointer (some ⟨w.heap.size,0,none⟩)]) (am1 rfl)) ?_
   obtain ⟨y18,e19,hm⟩:=bnd hm
   refine RQ.call rfl (am2 rfl rfl) (by kernel_rfl) (v:=.bool y18) (bel (K:=fun _=>True) fun w' hb'=>(c_m_slices_ContainsFunc_impl_Type_impl_Type d1.fields (fun x0=>m_impl_validConstructor_1 x0 d0) _ e19 _ _ _ w' (slArg typeRd_ok h1 r1 (Tt T hb')) (by kernel_rfl) (fun x0 b hx w1 hb1 y0 hy0=>Calls.arr (by simp) (c_m_impl_validConstructor_1 x0 d0 _ hx _ _ w1 hy0 (ptBox (R:=(slRd dataRd 2)) (blkT B3 (Tt hb' hb1)) ⟨_,_,_,rfl,SlAt.now dataRd_ok ha0 (Nat.le_refl _) (Tt (Tt T hb') hb1),ra0⟩)))))<|RQ.y rfl (Y.not (b':=(!y18)) rfl rfl)<|RQ.y rfl (Y.assign (v:=.bool (!y18)) rfl)<|RQ.nil ?_
   intro w20 hb21
   have szw20:=hb21.size
   have T:=Tt T hb21
   refine then_n<|wp_ret ?_
   obtain rfl:=sj hm
   exact (ret1 rfl rfl rfl ⟨rfl,T⟩)
  replace hm:=cT c17 hm
  have pc17:=of_decide_eq_true c17
  refine cond_t rfl (vb rfl c17)<|wp_seq<|wp_rs rfl<|RQ.y rfl (Y.assign (v:=.bool false) rfl)<|RQ.nil<|then_n<|wp_ret ?_
  obtain rfl:=sj hm
  exact (then_r (ret1 rfl rfl rfl ⟨rfl,T⟩))
noncomputable def m_impl_ValidDatas_A1:Option Bool:=
  some true
noncomputable def m_impl_ValidDatas_A2 (rec1:Int→MapM ByteArray Bool→Option Bool) (i7:Int) (z47:MapM ByteArray Bool):Option Bool:=
  ((ck (i7+1)).bind fun s49=>(rec1 s49 z47))
noncomputable def m_impl_ValidDatas_B2 (d0:List DData) (x11:DData) (rec2:Int→MapM ByteArray Bool→Option Bool) (K2:MapM ByteArray Bool→Option Bool) (i50:Int) (z51:MapM ByteArray Bool):Option Bool:=
  (bif (decide (i50 < (x11.cons.length:Int))) then ((getI x11.cons i50).bind fun x54=>((m_impl_validConstructor d0 x54).bind fun y71=>(bif y71 then ((mustP (x54.name.size≤maxLen)).bind fun _=>(bif (z51.look x54.name false) then some false else ((mustP (x54.name.size≤maxLen)).bind fun _=>((mustP (z51.n≤4294967296)).bind fun _=>(rec2 (i50+1) (z51.put x54.name true)))))) else some false))) else (K2 z51))
noncomputable def m_impl_ValidDatas_L2 (d0:List DData) (x11:DData) (K2:MapM ByteArray Bool→Option Bool):Nat→Int→MapM ByteArray Bool→Option Bool
  |0,_,_=>none
  |g+1,i50,z51=>m_impl_ValidDatas_B2 d0 x11 (m_impl_ValidDatas_L2 d0 x11 K2 g) K2 i50 z51
noncomputable def m_impl_ValidDatas_B1 (d0:List DData) (rec1:Int→MapM ByteArray Bool→Option Bool) (K1:Option Bool) (i7:Int) (z8:MapM ByteArray Bool):Option Bool:=
  (bif (decide (i7 < (d0.length:Int))) then ((getI d0 i7).bind fun x11=>((m_impl_IsUpper x11.name).bind fun y28=>(bif y28 then (bif (x11.name.toList==(ByteArray.mk #[73,110,116]).toList) then some false else ((mustP (0≤i7∧i7.toNat≤d0.length)).bind fun _=>((m_impl_findData (d0.take i7.toNat) x11.name).bind fun y40=>(bif (decide (y40 ≥ 0)) then some false else (bif (decide ((x11.cons.length:Int) < 1)) then some false else (bif (decide ((x11.cons.length:Int) > 4)) then some false else (m_impl_ValidDatas_L2 d0 x11 (m_impl_ValidDatas_A2 rec1 i7) (x11.cons.length+1) 0 z8))))))) else some false))) else (K1))
noncomputable def m_impl_ValidDatas_L1 (d0:List DData) (K1:Option Bool):Nat→Int→MapM ByteArray Bool→Option Bool
  |0,_,_=>none
  |g+1,i7,z8=>m_impl_ValidDatas_B1 d0 (m_impl_ValidDatas_L1 d0 K1 g) K1 i7 z8
noncomputable def m_impl_ValidDatas (d0:List DData):Option Bool:=
  (bif (decide ((d0.length:Int) > 4)) then some false else (m_impl_ValidDatas_L1 d0 m_impl_ValidDatas_A1 (d0.length+1) 0 (MapM.empty:MapM ByteArray Bool)))
set_option maxHeartbeats 2000000 in
theorem c_m_impl_ValidDatas (d0:List DData) (r:Bool) (hm:m_impl_ValidDatas d0=some r) (v0:Value) (w:World) (hv0:Sl dataRd 2 w v0 d0) :
    Calls Tryz.prog 91 #[v0] w fun e w'=>e=.returned (.bool r)∧Below w.heap.size w w':=by
  obtain ⟨Aa0,na0,ca0,rfl,ha0,ra0⟩:=hv0
  have ea0:=ha0.len; subst ea0
  have qa0:=len_le ra0
  have T:=Below.refl w.heap.size w
  unfold m_impl_ValidDatas at hm
  refine enter 71 Tryz.func91 rfl rfl rfl ?_
  intro f hf
  have s0:f 0=.slice Aa0 d0.length ca0:=hf 0 _ rfl
  refine wp_seq<|wp_rs rfl<|RQ.y rfl (Y.assign (v:=.bool false) rfl)<|RQ.nil<|then_n<|wp_seq<|wp_seq<|wp_rs rfl<|RQ.y rfl (Y.move (v:=.slice Aa0 d0.length ca0) s0)<|RQ.y rfl (Y.len (by kernel_rfl) rfl)<|RQ.y rfl (Y.binI (v:=.bool (decide ((d0.length:Int) > 4))) rfl rfl rfl)<|RQ.nil<|then_n ?_
  rcases bcases (decide ((d0.length:Int) > 4)) with c1|c1
  ·replace hm:=cF c1 hm
   have pc1:=of_decide_eq_false c1
   refine cond_f rfl (vb rfl c1)<|wp_skip<|then_n<|wp_seq<|wp_rl rfl ?_
   refine RL.makeMap (κ:=ByteArray) (β:=Bool) 9 litS encVB rfl (fun w2 B3 hb4 szw2=>?_)
   replace B3:=OwM.lower B3 T.size
   have T:=Tt T hb4
   refine RL.y rfl (Y.assign (v:=.map (some w.heap.size)) rfl)<|RL.nil<|then_n<|wp_seq<|wp_seq<|wp_rs rfl<|RQ.y rfl (Y.move (v:=.slice Aa0 d0.length ca0) s0)<|RQ.y rfl (Y.len (by kernel_rfl) rfl)<|RQ.y rfl (Y.move (v:=.int .i64 0) rfl)<|RQ.nil<|then_n<|wp_block ?_
   obtain ⟨K1,hK1,hm⟩ :∃K,K=m_impl_ValidDatas_A1∧m_impl_ValidDatas_L1 d0 K (d0.length+1) 0 (MapM.empty:MapM ByteArray Bool)=some r:=⟨_,rfl,hm⟩
   refine wp_loopX (fun g f w'=>∃(i7:Int) (z8:MapM ByteArray Bool),f 0=.slice Aa0 d0.length ca0∧f 3=.map (some w.heap.size)∧f 12=.slice Aa0 d0.length ca0∧f 13=.int .i64 (d0.length:Int)∧f 14=.int .i64 i7∧0≤i7∧OwM Tryz.prog 9 litS encVB w' w.heap.size w.heap.size z8∧Below w.heap.size w w'∧m_impl_ValidDatas_L1 d0 K1 g i7 z8=some r) 0 (fun f w'=>Below w.heap.size w w'∧m_impl_ValidDatas_A1  = some r) (d0.length+1) ⟨0,(MapM.empty:MapM ByteArray Bool),s0,rfl,rfl,rfl,rfl,(by omega),B3,T,hm⟩ ?_ ?_
   ·rintro f w6 ⟨T,hm⟩
    unfold m_impl_ValidDatas_A1 at hm
    refine blk_hit (then_n ?_)
    refine wp_seq<|wp_rs rfl<|RQ.y rfl (Y.assign (v:=.bool true) rfl)<|RQ.nil<|then_n<|wp_ret ?_
    obtain rfl:=sj hm
    exact (ret1 rfl rfl rfl ⟨rfl,T⟩)
   rintro g f w9 ⟨i7,z8,s0_1,s3_1,s12_1,s13_1,s14_1,nn14_1,Bz8,T,hm⟩
   rcases g with _|g
   ·simp only [m_impl_ValidDatas_L1] at hm; cases hm
   obtain ⟨rec1,hrec1,hm⟩ :∃z,z=m_impl_ValidDatas_L1 d0 K1 g∧m_impl_ValidDatas_B1 d0 z K1 i7 z8=some r:=⟨_,rfl,hm⟩
   unfold m_impl_ValidDatas_B1 at hm
   refine wp_seq<|wp_rs rfl<|RQ.y rfl (Y.binI (v:=.bool (decide (i7 < (d0.length:Int)))) s14_1 s13_1 rfl)<|RQ.nil<|then_n<|wp_seq ?_
   rcases bcases (decide (i7 < (d0.length:Int))) with c10|c10
   ·replace hm:=cF c10 hm
    have pc10:=of_decide_eq_false c10
    refine cond_f rfl (vb rfl c10)<|wp_exit ?_
    exact (then_x (then_x (hit_x ⟨_,rfl,⟨T,(by rw [hK1] at hm; exact hm)⟩⟩)))
   replace hm:=cT c10 hm
   have pc10:=of_decide_eq_true c10
   refine cond_t rfl (vb rfl c10)<|wp_skip<|then_n<|wp_seq<|wp_block<|wp_seq<|wp_rl rfl<|RL.y rfl (Y.move (v:=.int .i64 i7) s14_1) ?_
   obtain ⟨x11,hx14,hm⟩:=bnd hm
   obtain ⟨k12,hk15,hl16,hx14⟩:=getI_some hx14
   obtain ⟨b18,o19,rfl,hbb18⟩:=ha0.addr (by omega)
   obtain ⟨cs13,hRcs13,hc17⟩:=ha0.el hx14
   have hScs13:=hRcs13
   obtain ⟨A20,n20,c20,rfl,⟨h20,r20⟩⟩:=hRcs13
   have e20:=h20.len; subst e20
   have q20:=len_le r20
   refine RL.y rfl (Y.indexAddr (m:=k12) (sz:=2) s12_1 s14_1 hk15 hl16 (by kernel_rfl))<|RL.y rfl (Y.loadN (cs:=[.string x11.name,.slice A20 x11.cons.length c20]) rfl (by kernel_rfl) (cells2 (eqC (cellT T (hc17 0 _ rfl))) (eqC (cellT T (hc17 1 _ rfl))))) ?_
   refine RL.alloc (z:=.agg #[.string ByteArray.empty,.slice none 0 0]) rfl (by kernel_rfl) (fun w21 B22 hb23 szw21=>?_)
   replace B22:Blk w21 w9.heap.size 167 #[.string ByteArray.empty,.slice none 0 0]:=B22
   have GB22:w.heap.size≤w9.heap.size:=T.size
   have Eob24_ob5:=Nat.ne_of_lt Bz8.lt
   have Bz8:=OwM.below Bz8 hb23
   have T:=Tt T hb23
   refine RL.y rfl (Y.assign (v:=.int .i64 i7) rfl) ?_
   refine RL.store (v:=.agg #[.string x11.name,.slice A20 x11.cons.length c20]) (cs':=#[.string x11.name,.slice A20 x11.cons.length c20]) rfl rfl rfl B22 (by kernel_rfl) (by rfl) (by rfl) (by rfl) (fun w25 B26 ho27=>?_)
   have szw25:=ho27.size
   have Bz8:=Bz8.only ho27 (by intro hin; simp at hin; exact Eob24_ob5 hin)
   have T:=T.trans (ho27.below (by first|(simp; done)|(simp; omega)))
   refine RL.nil<|then_n<|wp_seq<|wp_seq<|wp_rbd (by kernel_rfl) (by kernel_rfl)<|RQ.y rfl (Y.fieldAddr (off:=0) rfl (by kernel_rfl))<|RQ.y rfl (Y.load (v:=.string x11.name) rfl (by kernel_rfl) (beC (blkCell B26 (i:=0) rfl))) ?_
   obtain ⟨y28,e29,hm⟩:=bnd hm
   refine RQ.call rfl (am1 rfl) (by kernel_rfl) (v:=.bool y28) (bel (K:=fun _=>True) fun w' hb'=>(c_m_impl_IsUpper x11.name _ e29  w' ))<|RQ.y rfl (Y.not (b':=(!y28)) rfl rfl)<|RQ.y rfl (Y.move (v:=.bool (!y28)) rfl) ?_
   rcases bcases y28 with c30|c30
   ·replace hm:=cF c30 hm
    iterate 3 refine RQ.skip (wantN (dj:=23) rfl (vbn rfl c30 rfl) rfl) ?_
    refine RQ.y rfl (Y.pick (b:=true) (v:=.bool true) (vbn rfl c30 rfl) rfl)<|RQ.y rfl (Y.move (v:=.bool true) rfl) ?_
    iterate 7 refine RQ.skip (wantN (dj:=28) rfl rfl rfl) ?_
    refine RQ.y rfl (Y.pick (b:=true) (v:=.bool true) rfl rfl)<|RQ.y rfl (Y.move (v:=.bool true) rfl) ?_
    iterate 4 refine RQ.skip (wantN (dj:=37) rfl rfl rfl) ?_
    refine RQ.y rfl (Y.pick (b:=true) (v:=.bool true) rfl rfl)<|RQ.y rfl (Y.move (v:=.bool true) rfl) ?_
    iterate 4 refine RQ.skip (wantN (dj:=43) rfl rfl rfl) ?_
    refine RQ.y rfl (Y.pick (b:=true) (v:=.bool true) rfl rfl)<|RQ.nil ?_
    intro w31 hb32
    have szw31:=hb32.size
    have Bz8:=OwM.below Bz8 hb32
    have B26:=blkT B26 hb32
    have T:=Tt T hb32
    refine then_n<|cond_t rfl rfl<|wp_seq<|wp_rs rfl<|RQ.y rfl (Y.assign (v:=.bool false) rfl)<|RQ.nil<|then_n<|wp_ret ?_
    obtain rfl:=sj hm
    exact (then_r (blk_r (then_r (then_r (hit_r (blk_r (then_r (ret1 rfl rfl rfl ⟨rfl,T⟩))))))))
   replace hm:=cT c30 hm
   refine RQ.y (wantT (dj:=23) rfl (vbn rfl c30 rfl)) (Y.fieldAddr (off:=0) rfl (by kernel_rfl))<|RQ.y (wantT (dj:=23) rfl (vbn rfl c30 rfl)) (Y.load (v:=.string x11.name) rfl (by kernel_rfl) (beC (blkCell B26 (i:=0) rfl)))<|RQ.y (wantT (dj:=23) rfl (vbn rfl c30 rfl)) (Y.eqStr rfl rfl (by kernel_rfl))<|RQ.y rfl (Y.pick (b:=false) (v:=.bool (x11.name.toList==(ByteArray.mk #[73,110,116]).toList)) (vbn rfl c30 rfl) rfl)<|RQ.y rfl (Y.move (v:=.bool (x11.name.toList==(ByteArray.mk #[73,110,116]).toList)) rfl) ?_
   rcases bcases (x11.name.toList==(ByteArray.mk #[73,110,116]).toList) with c33|c33
   ·replace hm:=cF c33 hm
    refine RQ.y (wantT (dj:=28) rfl (vb rfl c33)) (Y.move (v:=.slice (some ⟨b18,o19,none⟩) d0.length ca0) s0_1)<|RQ.y (wantT (dj:=28) rfl (vb rfl c33)) (Y.move (v:=.int .i64 i7) rfl) ?_
    obtain ⟨_,m34,hm⟩:=bnd hm
    have hk35:=mustP_some m34
    obtain ⟨Av36,eA37⟩ :∃Av,(if ca0=0 then (some ⟨b18,o19,none⟩) else ((some ⟨b18,o19,none⟩):Option Addr).map (·.add (0 * 2)))=Av:=⟨_,rfl⟩
    have ⟨h38,r39⟩:=SlAt.takeV ha0 ra0 hk35.2 eA37
    refine RQ.y (wantT (dj:=28) rfl (vb rfl c33)) (Y.sliceH (l:=i7.toNat) (sz:=2) rfl (toN hk35.1 rfl) rfl hk35.2 ra0.1 (by kernel_rfl) eA37)<|RQ.y (wantT (dj:=28) rfl (vb rfl c33)) (Y.fieldAddr (off:=0) rfl (by kernel_rfl))<|RQ.y (wantT (dj:=28) rfl (vb rfl c33)) (Y.load (v:=.string x11.name) rfl (by kernel_rfl) (beC (blkCell B26 (i:=0) rfl))) ?_
    obtain ⟨y40,e41,hm⟩:=bnd hm
    refine RQ.call (wantT (dj:=28) rfl (vb rfl c33)) (am2 rfl rfl) (by kernel_rfl) (v:=.int .i64 y40) (bel (K:=fun _=>True) fun w' hb'=>(c_m_impl_findData (d0.take i7.toNat) x11.name _ e41 _ w' (slArg dataRd_ok h38 r39 (Tt T hb'))))<|RQ.y (wantT (dj:=28) rfl (vb rfl c33)) (Y.binI (v:=.bool (decide (y40 ≥ 0))) rfl rfl rfl)<|RQ.y rfl (Y.pick (b:=false) (v:=.bool (decide (y40 ≥ 0))) (vb rfl c33) rfl)<|RQ.y rfl (Y.move (v:=.bool (decide (y40 ≥ 0))) rfl) ?_
    rcases bcases (decide (y40 ≥ 0)) with c42|c42
    ·replace hm:=cF c42 hm
     have pc42:=of_decide_eq_false c42
     refine RQ.y (wantT (dj:=37) rfl (vb rfl c42)) (Y.fieldAddr (off:=1) rfl (by kernel_rfl))<|RQ.y (wantT (dj:=37) rfl (vb rfl c42)) (Y.load (v:=.slice A20 x11.cons.length c20) rfl (by kernel_rfl) (beC (blkCell B26 (i:=1) rfl)))<|RQ.y (wantT (dj:=37) rfl (vb rfl c42)) (Y.len (by kernel_rfl) rfl)<|RQ.y (wantT (dj:=37) rfl (vb rfl c42)) (Y.binI (v:=.bool (decide ((x11.cons.length:Int) < 1))) rfl rfl rfl)<|RQ.y rfl (Y.pick (b:=false) (v:=.bool (decide ((x11.cons.length:Int) < 1))) (vb rfl c42) rfl)<|RQ.y rfl (Y.move (v:=.bool (decide ((x11.cons.length:Int) < 1))) rfl) ?_
     rcases bcases (decide ((x11.cons.length:Int) < 1)) with c43|c43
     ·replace hm:=cF c43 hm
      have pc43:=of_decide_eq_false c43
      refine RQ.y (wantT (dj:=43) rfl (vb rfl c43)) (Y.fieldAddr (off:=1) rfl (by kernel_rfl))<|RQ.y (wantT (dj:=43) rfl (vb rfl c43)) (Y.load (v:=.slice A20 x11.cons.length c20) rfl (by kernel_rfl) (beC (blkCell B26 (i:=1) rfl)))<|RQ.y (wantT (dj:=43) rfl (vb rfl c43)) (Y.len (by kernel_rfl) rfl)<|RQ.y (wantT (dj:=43) rfl (vb rfl c43)) (Y.binI (v:=.bool (decide ((x11.cons.length:Int) > 4))) rfl rfl rfl)<|RQ.y rfl (Y.pick (b:=false) (v:=.bool (decide ((x11.cons.length:Int) > 4))) (vb rfl c43) rfl)<|RQ.nil ?_
      intro w44 hb45
      have szw44:=hb45.size
      have Bz8:=OwM.below Bz8 hb45
      have B26:=blkT B26 hb45
      have T:=Tt T hb45
      refine then_n ?_
      rcases bcases (decide ((x11.cons.length:Int) > 4)) with c46|c46
      ·replace hm:=cF c46 hm
       have pc46:=of_decide_eq_false c46
       refine cond_f rfl (vb rfl c46)<|wp_skip<|then_n<|wp_seq<|wp_rs rfl<|RQ.y rfl (Y.fieldAddr (off:=1) rfl (by kernel_rfl))<|RQ.y rfl (Y.load (v:=.slice A20 x11.cons.length c20) rfl (by kernel_rfl) (eqC (blkCell B26 (i:=1) rfl)))<|RQ.y rfl (Y.len (by kernel_rfl) rfl)<|RQ.y rfl (Y.move (v:=.int .i64 0) rfl)<|RQ.nil<|then_n<|wp_block ?_
       obtain ⟨K2,hK2,hm⟩ :∃K,K=(m_impl_ValidDatas_A2 rec1 i7)∧m_impl_ValidDatas_L2 d0 x11 K (x11.cons.length+1) 0 z8=some r:=⟨_,rfl,hm⟩
       refine wp_loopX (fun g f w'=>∃(i50:Int) (z51:MapM ByteArray Bool),f 0=.slice (some ⟨b18,o19,none⟩) d0.length ca0∧f 3=.map (some w.heap.size)∧f 12=.slice (some ⟨b18,o19,none⟩) d0.length ca0∧f 13=.int .i64 (d0.length:Int)∧f 14=.int .i64 i7∧f 50=.slice A20 x11.cons.length c20∧f 51=.int .i64 (x11.cons.length:Int)∧f 52=.int .i64 i50∧0≤i50∧OwM Tryz.prog 9 litS encVB w' w.heap.size w.heap.size z51∧Below w.heap.size w w'∧m_impl_ValidDatas_L2 d0 x11 K2 g i50 z51=some r) 2 (fun f w'=>∃(z47:MapM ByteArray Bool),f 0=.slice (some ⟨b18,o19,none⟩) d0.length ca0∧f 3=.map (some w.heap.size)∧f 12=.slice (some ⟨b18,o19,none⟩) d0.length ca0∧f 13=.int .i64 (d0.length:Int)∧f 14=.int .i64 i7∧OwM Tryz.prog 9 litS encVB w' w.heap.size w.heap.size z47∧Below w.heap.size w w'∧m_impl_ValidDatas_A2 rec1 i7 z47=some r) (x11.cons.length+1) ⟨0,z8,s0_1,s3_1,s12_1,s13_1,s14_1,rfl,rfl,rfl,(by omega),Bz8,T,hm⟩ ?_ ?_
       ·rintro f w48 ⟨z47,s0_2x,s3_2x,s12_2x,s13_2x,s14_2x,Bz47,T,hm⟩
        unfold m_impl_ValidDatas_A2 at hm
        refine blk_hit (blk_n (then_n ?_))
        refine wp_rs rfl ?_
        obtain ⟨s49,ks49,hm⟩:=bnd hm
        replace ks49:=ck_some ks49
        refine RQ.y rfl (Y.binI (v:=.int .i64 s49) s14_2x rfl (by rw [binI_add ks49.2,ks49.1]))<|RQ.y rfl (Y.move (v:=.int .i64 s49) rfl)<|RQ.nil ?_
        exact (then_n ⟨g,_,Nat.lt_succ_self _,rfl,⟨s49,z47,s0_2x,s3_2x,s12_2x,s13_2x,rfl,(by omega),Bz47,T,(by rw [← hrec1]; exact hm)⟩⟩)
       rintro g f w52 ⟨i50,z51,s0_2,s3_2,s12_2,s13_2,s14_2,s50_2,s51_2,s52_2,nn52_2,Bz51,T,hm⟩
       rcases g with _|g
       ·simp only [m_impl_ValidDatas_L2] at hm; cases hm
       obtain ⟨rec2,hrec2,hm⟩ :∃z,z=m_impl_ValidDatas_L2 d0 x11 K2 g∧m_impl_ValidDatas_B2 d0 x11 z K2 i50 z51=some r:=⟨_,rfl,hm⟩
       unfold m_impl_ValidDatas_B2 at hm
       refine wp_seq<|wp_rs rfl<|RQ.y rfl (Y.binI (v:=.bool (decide (i50 < (x11.cons.length:Int)))) s52_2 s51_2 rfl)<|RQ.nil<|then_n<|wp_seq ?_
       rcases bcases (decide (i50 < (x11.cons.length:Int))) with c53|c53
       ·replace hm:=cF c53 hm
        have pc53:=of_decide_eq_false c53
        refine cond_f rfl (vb rfl c53)<|wp_exit ?_
        exact (then_x (then_x (hit_x ⟨_,rfl,⟨z51,s0_2,s3_2,s12_2,s13_2,s14_2,Bz51,T,(by rw [hK2] at hm; exact hm)⟩⟩)))
       replace hm:=cT c53 hm
       have pc53:=of_decide_eq_true c53
       refine cond_t rfl (vb rfl c53)<|wp_skip<|then_n<|wp_seq<|wp_block<|wp_seq<|wp_rl rfl ?_
       obtain ⟨x54,hx57,hm⟩:=bnd hm
       obtain ⟨k55,hk58,hl59,hx57⟩:=getI_some hx57
       obtain ⟨b61,o62,rfl,hbb61⟩:=h20.addr (by omega)
       obtain ⟨cs56,hRcs56,hc60⟩:=h20.el hx57
       have hScs56:=hRcs56
       obtain ⟨A63,n63,c63,rfl,⟨h63,r63⟩⟩:=hRcs56
       have e63:=h63.len; subst e63
       have q63:=len_le r63
       refine RL.y rfl (Y.indexAddr (m:=k55) (sz:=2) s50_2 s52_2 hk58 hl59 (by kernel_rfl))<|RL.y rfl (Y.loadN (cs:=[.string x54.name,.slice A63 x54.fields.length c63]) rfl (by kernel_rfl) (cells2 (eqC (cellT T (hc60 0 _ rfl))) (eqC (cellT T (hc60 1 _ rfl))))) ?_
       refine RL.alloc (z:=.agg #[.string ByteArray.empty,.slice none 0 0]) rfl (by kernel_rfl) (fun w64 B65 hb66 szw64=>?_)
       replace B65:Blk w64 w52.heap.size 173 #[.string ByteArray.empty,.slice none 0 0]:=B65
       have GB65:w.heap.size≤w52.heap.size:=T.size
       have Eob67_ob5:=Nat.ne_of_lt Bz51.lt
       have Bz51:=OwM.below Bz51 hb66
       have T:=Tt T hb66
       refine RL.store (v:=.agg #[.string x54.name,.slice A63 x54.fields.length c63]) (cs':=#[.string x54.name,.slice A63 x54.fields.length c63]) rfl rfl rfl B65 (by kernel_rfl) (by rfl) (by rfl) (by rfl) (fun w68 B69 ho70=>?_)
       have szw68:=ho70.size
       have Bz51:=Bz51.only ho70 (by intro hin; simp at hin; exact Eob67_ob5 hin)
       have T:=T.trans (ho70.below (by first|(simp; done)|(simp; omega)))
       refine RL.nil<|then_n<|wp_seq<|wp_seq<|wp_rb rfl<|RQ.y rfl (Y.move (v:=.slice (some ⟨b18,o19,none⟩) d0.length ca0) s0_2)<|RQ.y rfl (Y.loadN (cs:=[.string x54.name,.slice A63 x54.fields.length c63]) rfl (by kernel_rfl) (cells2 (beC (blkCell B69 (i:=0) rfl)) (beC (blkCell B69 (i:=1) rfl)))) ?_
       obtain ⟨y71,e72,hm⟩:=bnd hm
       refine RQ.call rfl (am2 rfl rfl) (by kernel_rfl) (v:=.bool y71) (bel (K:=fun _=>True) fun w' hb'=>(c_m_impl_validConstructor d0 x54 _ e72 _ _ w' (slArg dataRd_ok ha0 ra0 (Tt T hb')) (stArg (R:=constructorRd) ⟨_,_,_,rfl,⟨SlAt.now typeRd_ok h63 (Nat.le_refl _) (Tt T hb'),r63⟩⟩)))<|RQ.y rfl (Y.not (b':=(!y71)) rfl rfl)<|RQ.y rfl (Y.move (v:=.bool (!y71)) rfl) ?_
       rcases bcases y71 with c73|c73
       ·replace hm:=cF c73 hm
        iterate 4 refine RQ.skip (wantN (dj:=60) rfl (vbn rfl c73 rfl) rfl) ?_
        refine RQ.y rfl (Y.pick (b:=true) (v:=.bool true) (vbn rfl c73 rfl) rfl)<|RQ.nil ?_
        intro w74 hb75
        have szw74:=hb75.size
        have Bz51:=OwM.below Bz51 hb75
        have B69:=blkT B69 hb75
        have T:=Tt T hb75
        refine then_n<|cond_t rfl rfl<|wp_seq<|wp_rs rfl<|RQ.y rfl (Y.assign (v:=.bool false) rfl)<|RQ.nil<|then_n<|wp_ret ?_
        obtain rfl:=sj hm
        exact (then_r (blk_r (then_r (then_r (hit_r (blk_r (blk_r (then_r (then_r (hit_r (blk_r (then_r (ret1 rfl rfl rfl ⟨rfl,T⟩)))))))))))))
       replace hm:=cT c73 hm
       refine RQ.y (wantT (dj:=60) rfl (vbn rfl c73 rfl)) (Y.move (v:=.map (some w.heap.size)) s3_2)<|RQ.y (wantT (dj:=60) rfl (vbn rfl c73 rfl)) (Y.fieldAddr (off:=0) rfl (by kernel_rfl))<|RQ.y (wantT (dj:=60) rfl (vbn rfl c73 rfl)) (Y.load (v:=.string x54.name) rfl (by kernel_rfl) (beC (blkCell B69 (i:=0) rfl))) ?_
       obtain ⟨_,kc76,hm⟩:=bnd hm
       replace kc76:=mustP_some kc76
       refine RQ.y (wantT (dj:=60) rfl (vbn rfl c73 rfl)) (Y.look (zb:=false) (a:=x54.name) mt_string_bool rfl rfl kc76 (fun w' hb'=>OwM.below Bz51 hb'))<|RQ.y rfl (Y.pick (b:=false) (v:=.bool (z51.look x54.name false)) (vbn rfl c73 rfl) rfl)<|RQ.nil ?_
       intro w77 hb78
       have szw77:=hb78.size
       have Bz51:=OwM.below Bz51 hb78
       have B69:=blkT B69 hb78
       have T:=Tt T hb78
       refine then_n ?_
       rcases bcases (z51.look x54.name false) with c79|c79
       ·replace hm:=cF c79 hm
        refine cond_f rfl (vb rfl c79)<|wp_skip<|then_n<|wp_rl rfl<|RL.y rfl (Y.move (v:=.map (some w.heap.size)) s3_2)<|RL.y rfl (Y.fieldAddr (off:=0) rfl (by kernel_rfl))<|RL.y rfl (Y.load (v:=.string x54.name) rfl (by kernel_rfl) (eqC (blkCell B69 (i:=0) rfl))) ?_
        obtain ⟨_,kc80,hm⟩:=bnd hm
        replace kc80:=mustP_some kc80
        obtain ⟨_,m81,hm⟩:=bnd hm
        have hk82:=mustP_some m81
        refine RL.mapSet (a:=x54.name) (v:=true) (enc:=encVB) mt_string_bool rfl rfl rfl rfl kc80 Bz51 hk82 (fun w83 B84 ho85=>?_)
        have szw83:=ho85.size
        have B69:=B69.only_ ho85 (by intro hin; simp at hin; exact Eob67_ob5.symm hin)
        have T:=T.trans (ho85.below (by intro b hb; simp at hb; subst hb; exact Bz51.1))
        refine RL.nil ?_
        refine blk_n (then_n ?_)
        refine wp_rs rfl<|RQ.y rfl (Y.binI s52_2 rfl (binI_add (m:=i50) (by omega)))<|RQ.y rfl (Y.move (v:=.int .i64 (i50+1)) rfl)<|RQ.nil ?_
        exact (then_n ⟨g,_,Nat.lt_succ_self _,rfl,⟨(i50+1),(z51.put x54.name true),s0_2,s3_2,s12_2,s13_2,s14_2,s50_2,s51_2,rfl,(by omega),B84,T,(by rw [← hrec2]; exact hm)⟩⟩)
       replace hm:=cT c79 hm
       refine cond_t rfl (vb rfl c79)<|wp_seq<|wp_rs rfl<|RQ.y rfl (Y.assign (v:=.bool false) rfl)<|RQ.nil<|then_n<|wp_ret ?_
       obtain rfl:=sj hm
       exact (then_r (blk_r (then_r (then_r (hit_r (blk_r (blk_r (then_r (then_r (hit_r (blk_r (then_r (ret1 rfl rfl rfl ⟨rfl,T⟩)))))))))))))
      replace hm:=cT c46 hm
      have pc46:=of_decide_eq_true c46
      refine cond_t rfl (vb rfl c46)<|wp_seq<|wp_rs rfl<|RQ.y rfl (Y.assign (v:=.bool false) rfl)<|RQ.nil<|then_n<|wp_ret ?_
      obtain rfl:=sj hm
      exact (then_r (blk_r (then_r (then_r (hit_r (blk_r (then_r (ret1 rfl rfl rfl ⟨rfl,T⟩))))))))
     replace hm:=cT c43 hm
     have pc43:=of_decide_eq_true c43
     iterate 4 refine RQ.skip (wantN (dj:=43) rfl (vb rfl c43) rfl) ?_
     refine RQ.y rfl (Y.pick (b:=true) (v:=.bool true) (vb rfl c43) rfl)<|RQ.nil ?_
     intro w87 hb88
     have szw87:=hb88.size
     have Bz8:=OwM.below Bz8 hb88
     have B26:=blkT B26 hb88
     have T:=Tt T hb88
     refine then_n<|cond_t rfl rfl<|wp_seq<|wp_rs rfl<|RQ.y rfl (Y.assign (v:=.bool false) rfl)<|RQ.nil<|then_n<|wp_ret ?_
     obtain rfl:=sj hm
     exact (then_r (blk_r (then_r (then_r (hit_r (blk_r (then_r (ret1 rfl rfl rfl ⟨rfl,T⟩))))))))
    replace hm:=cT c42 hm
    have pc42:=of_decide_eq_true c42
    iterate 4 refine RQ.skip (wantN (dj:=37) rfl (vb rfl c42) rfl) ?_
    refine RQ.y rfl (Y.pick (b:=true) (v:=.bool true) (vb rfl c42) rfl)<|RQ.y rfl (Y.move (v:=.bool true) rfl) ?_
    iterate 4 refine RQ.skip (wantN (dj:=43) rfl rfl rfl) ?_
    refine RQ.y rfl (Y.pick (b:=true) (v:=.bool true) rfl rfl)<|RQ.nil ?_
    intro w89 hb90
    have szw89:=hb90.size
    have Bz8:=OwM.below Bz8 hb90
    have B26:=blkT B26 hb90
    have T:=Tt T hb90
    refine then_n<|cond_t rfl rfl<|wp_seq<|wp_rs rfl<|RQ.y rfl (Y.assign (v:=.bool false) rfl)<|RQ.nil<|then_n<|wp_ret ?_
    obtain rfl:=sj hm
    exact (then_r (blk_r (then_r (then_r (hit_r (blk_r (then_r (ret1 rfl rfl rfl ⟨rfl,T⟩))))))))
   replace hm:=cT c33 hm
   iterate 7 refine RQ.skip (wantN (dj:=28) rfl (vb rfl c33) rfl) ?_
   refine RQ.y rfl (Y.pick (b:=true) (v:=.bool true) (vb rfl c33) rfl)<|RQ.y rfl (Y.move (v:=.bool true) rfl) ?_
   iterate 4 refine RQ.skip (wantN (dj:=37) rfl rfl rfl) ?_
   refine RQ.y rfl (Y.pick (b:=true) (v:=.bool true) rfl rfl)<|RQ.y rfl (Y.move (v:=.bool true) rfl) ?_
   iterate 4 refine RQ.skip (wantN (dj:=43) rfl rfl rfl) ?_
   refine RQ.y rfl (Y.pick (b:=true) (v:=.bool true) rfl rfl)<|RQ.nil ?_
   intro w91 hb92
   have szw91:=hb92.size
   have Bz8:=OwM.below Bz8 hb92
   have B26:=blkT B26 hb92
   have T:=Tt T hb92
   refine then_n<|cond_t rfl rfl<|wp_seq<|wp_rs rfl<|RQ.y rfl (Y.assign (v:=.bool false) rfl)<|RQ.nil<|then_n<|wp_ret ?_
   obtain rfl:=sj hm
   exact (then_r (blk_r (then_r (then_r (hit_r (blk_r (then_r (ret1 rfl rfl rfl ⟨rfl,T⟩))))))))
  replace hm:=cT c1 hm
  have pc1:=of_decide_eq_true c1
  refine cond_t rfl (vb rfl c1)<|wp_seq<|wp_rs rfl<|RQ.y rfl (Y.assign (v:=.bool false) rfl)<|RQ.nil<|then_n<|wp_ret ?_
  obtain rfl:=sj hm
  exact (then_r (ret1 rfl rfl rfl ⟨rfl,T⟩))
noncomputable def m_impl_isSimple_R (self:(List DData)→DType→Option Bool) (d0:List DData) (d1:DType):Option Bool:=
  (bif (d1.kind==1) then (bif (d1.name.toList==(ByteArray.mk #[]).toList) then some ((d1.kids.length:Int)==0) else some false) else (bif (d1.kind==2) then (bif (d1.name.toList==(ByteArray.mk #[73,110,116]).toList) then some false else ((m_impl_IsUpper d1.name).bind fun y43=>(bif y43 then (bif ((d1.kids.length:Int)==0) then ((m_impl_findData d0 d1.name).bind fun y51=>some (decide (y51 ≥ 0))) else some false) else some false))) else (bif (d1.kind==3) then (bif (d1.name.toList==(ByteArray.mk #[]).toList) then (bif ((d1.kids.length:Int)==2) then ((getI d1.kids 0).bind fun x15=>((self d0 x15).bind fun y25=>(bif y25 then ((getI d1.kids 1).bind fun x30=>((self d0 x30).bind fun y38=>some y38)) else some false))) else some false) else some false) else some false)))
noncomputable def m_impl_isSimple:Nat→(List DData)→DType→Option Bool
  |0,_,_=>none
  |gas+1,d0,d1=>m_impl_isSimple_R (m_impl_isSimple gas) d0 d1
set_option maxHeartbeats 2000000 in
theorem c_m_impl_isSimple :∀(gas:Nat) (d0:List DData) (d1:DType) (r:Bool) (hm:m_impl_isSimple gas d0 d1=some r) (v0:Value) (v1:Value) (w:World) (hv0:Sl dataRd 2 w v0 d0) (hv1:St typeRd w v1 d1),
    Calls Tryz.prog 94 #[v0,v1] w fun e w'=>e=.returned (.bool r)∧Below w.heap.size w w':=by
  intro gas
  induction gas with
  |zero=>
   intro d0 d1 r hm v0 v1 w hv0 hv1
   cases hm
  |succ gas ih=>
   intro d0 d1 r hm v0 v1 w hv0 hv1
   obtain ⟨Aa0,na0,ca0,rfl,ha0,ra0⟩:=hv0
   have ea0:=ha0.len; subst ea0
   have qa0:=len_le ra0
   obtain ⟨csa1,rfl,hRR1⟩:=hv1
   obtain ⟨A1,n1,c1,rfl,⟨h1,r1⟩⟩:=(typeRd_out hRR1)
   have e1:=h1.len; subst e1
   have q1:=len_le r1
   have T:=Below.refl w.heap.size w
   obtain ⟨self,hself,hm⟩ :∃s,s=m_impl_isSimple gas∧m_impl_isSimple_R s d0 d1=some r:=⟨_,rfl,hm⟩
   unfold m_impl_isSimple_R at hm
   refine enter 68 Tryz.func94 rfl rfl rfl ?_
   intro f hf
   have s0:f 0=.slice Aa0 d0.length ca0:=hf 0 _ rfl
   have s1:f 1=.agg #[.int .i64 d1.kind,.string d1.name,.slice A1 d1.kids.length c1]:=hf 1 _ rfl
   refine wp_seq<|wp_rl rfl ?_
   refine RL.box rfl s1 (fun w2 B3 hb4 szw2=>?_)
   replace B3:Blk w2 w.heap.size 114 #[.int .i64 d1.kind,.string d1.name,.slice A1 d1.kids.length c1]:=B3
   have GB3:w.heap.size≤w.heap.size:=T.size
   have T:=Tt T hb4
   refine RL.y rfl (Y.assign (v:=.bool false) rfl)<|RL.nil<|then_n<|wp_seq<|wp_seq<|wp_rs rfl<|RQ.y rfl (Y.fieldAddr (off:=0) rfl (by kernel_rfl))<|RQ.y rfl (Y.load (v:=.int .i64 d1.kind) rfl (by kernel_rfl) (eqC (blkCell B3 (i:=0) rfl)))<|RQ.nil<|then_n<|wp_block<|wp_seq<|wp_rs rfl<|RQ.y rfl (Y.binI (v:=.bool (d1.kind==1)) rfl rfl rfl)<|RQ.y rfl (Y.assign (v:=.bool (d1.kind==1)) rfl)<|RQ.nil<|then_n ?_
   rcases bcases (d1.kind==1) with c6|c6
   ·replace hm:=cF c6 hm
    refine cond_f rfl (vb rfl c6)<|wp_seq<|wp_rs rfl<|RQ.y rfl (Y.binI (v:=.bool (d1.kind==2)) rfl rfl rfl)<|RQ.y rfl (Y.assign (v:=.bool (d1.kind==2)) rfl)<|RQ.nil<|then_n ?_
    rcases bcases (d1.kind==2) with c7|c7
    ·replace hm:=cF c7 hm
     refine cond_f rfl (vb rfl c7)<|wp_seq<|wp_rs rfl<|RQ.y rfl (Y.binI (v:=.bool (d1.kind==3)) rfl rfl rfl)<|RQ.y rfl (Y.assign (v:=.bool (d1.kind==3)) rfl)<|RQ.nil<|then_n ?_
     rcases bcases (d1.kind==3) with c8|c8
     ·replace hm:=cF c8 hm
      refine cond_f rfl (vb rfl c8)<|wp_skip ?_
      refine blk_n (then_n ?_)
      refine wp_seq<|wp_rs rfl<|RQ.y rfl (Y.assign (v:=.bool false) rfl)<|RQ.nil<|then_n<|wp_ret ?_
      obtain rfl:=sj hm
      exact (ret1 rfl rfl rfl ⟨rfl,T⟩)
     replace hm:=cT c8 hm
     refine cond_t rfl (vb rfl c8)<|wp_seq<|wp_rb rfl<|RQ.y rfl (Y.fieldAddr (off:=1) rfl (by kernel_rfl))<|RQ.y rfl (Y.load (v:=.string d1.name) rfl (by kernel_rfl) (beC (blkCell B3 (i:=1) rfl)))<|RQ.y rfl (Y.eqStr rfl rfl (by kernel_rfl))<|RQ.y rfl (Y.move (v:=.bool (d1.name.toList==(ByteArray.mk #[]).toList)) rfl) ?_
     rcases bcases (d1.name.toList==(ByteArray.mk #[]).toList) with c9|c9
     ·replace hm:=cF c9 hm
      iterate 4 refine RQ.skip (wantN (dj:=46) rfl (vb rfl c9) rfl) ?_
      refine RQ.y rfl (Y.pick (b:=false) (v:=.bool false) (vb rfl c9) rfl)<|RQ.y rfl (Y.move (v:=.bool false) rfl) ?_
      iterate 6 refine RQ.skip (wantN (dj:=52) rfl rfl rfl) ?_
      refine RQ.y rfl (Y.pick (b:=false) (v:=.bool false) rfl rfl)<|RQ.y rfl (Y.move (v:=.bool false) rfl) ?_
      iterate 6 refine RQ.skip (wantN (dj:=60) rfl rfl rfl) ?_
      refine RQ.y rfl (Y.pick (b:=false) (v:=.bool false) rfl rfl)<|RQ.y rfl (Y.assign (v:=.bool false) rfl)<|RQ.nil ?_
      intro w10 hb11
      have szw10:=hb11.size
      have T:=Tt T hb11
      refine then_n<|wp_ret ?_
      obtain rfl:=sj hm
      exact (blk_r (then_r (ret1 rfl rfl rfl ⟨rfl,T⟩)))
     replace hm:=cT c9 hm
     refine RQ.y (wantT (dj:=46) rfl (vb rfl c9)) (Y.fieldAddr (off:=2) rfl (by kernel_rfl))<|RQ.y (wantT (dj:=46) rfl (vb rfl c9)) (Y.load (v:=.slice A1 d1.kids.length c1) rfl (by kernel_rfl) (beC (blkCell B3 (i:=2) rfl)))<|RQ.y (wantT (dj:=46) rfl (vb rfl c9)) (Y.len (by kernel_rfl) rfl)<|RQ.y (wantT (dj:=46) rfl (vb rfl c9)) (Y.binI (v:=.bool ((d1.kids.length:Int)==2)) rfl rfl rfl)<|RQ.y rfl (Y.pick (b:=true) (v:=.bool ((d1.kids.length:Int)==2)) (vb rfl c9) rfl)<|RQ.y rfl (Y.move (v:=.bool ((d1.kids.length:Int)==2)) rfl) ?_
     rcases bcases ((d1.kids.length:Int)==2) with c12|c12
     ·replace hm:=cF c12 hm
      iterate 6 refine RQ.skip (wantN (dj:=52) rfl (vb rfl c12) rfl) ?_
      refine RQ.y rfl (Y.pick (b:=false) (v:=.bool false) (vb rfl c12) rfl)<|RQ.y rfl (Y.move (v:=.bool false) rfl) ?_
      iterate 6 refine RQ.skip (wantN (dj:=60) rfl rfl rfl) ?_
      refine RQ.y rfl (Y.pick (b:=false) (v:=.bool false) rfl rfl)<|RQ.y rfl (Y.assign (v:=.bool false) rfl)<|RQ.nil ?_
      intro w13 hb14
      have szw13:=hb14.size
      have T:=Tt T hb14
      refine then_n<|wp_ret ?_
      obtain rfl:=sj hm
      exact (blk_r (then_r (ret1 rfl rfl rfl ⟨rfl,T⟩)))
     replace hm:=cT c12 hm
     refine RQ.y (wantT (dj:=52) rfl (vb rfl c12)) (Y.move (v:=.slice Aa0 d0.length ca0) s0)<|RQ.y (wantT (dj:=52) rfl (vb rfl c12)) (Y.fieldAddr (off:=2) rfl (by kernel_rfl))<|RQ.y (wantT (dj:=52) rfl (vb rfl c12)) (Y.load (v:=.slice A1 d1.kids.length c1) rfl (by kernel_rfl) (beC (blkCell B3 (i:=2) rfl))) ?_
     obtain ⟨x15,hx18,hm⟩:=bnd hm
     obtain ⟨k16,hk19,hl20,hx18⟩:=getI_some hx18
     obtain ⟨b22,o23,rfl,hbb22⟩:=h1.addr (by omega)
     obtain ⟨cs17,hRcs17,hc21⟩:=h1.el hx18
     have hScs17:=hRcs17
     obtain ⟨A24,n24,c24,rfl,⟨h24,r24⟩⟩:=(typeRd_out hRcs17)
     have e24:=h24.len; subst e24
     have q24:=len_le r24
     refine RQ.y (wantT (dj:=52) rfl (vb rfl c12)) (Y.indexAddr (m:=k16) (sz:=3) rfl rfl hk19 hl20 (by kernel_rfl))<|RQ.y (wantT (dj:=52) rfl (vb rfl c12)) (Y.loadN (cs:=[.int .i64 x15.kind,.string x15.name,.slice A24 x15.kids.length c24]) rfl (by kernel_rfl) (cells3 (beC (cellT T (hc21 0 _ rfl))) (beC (cellT T (hc21 1 _ rfl))) (beC (cellT T (hc21 2 _ rfl))))) ?_
     obtain ⟨y25,e26,hm⟩:=bnd hm
     refine RQ.call (wantT (dj:=52) rfl (vb rfl c12)) (am2 rfl rfl) (by kernel_rfl) (v:=.bool y25) (bel (K:=fun _=>True) fun w' hb'=>(ih d0 x15 _ (by rw [← hself]; exact e26) _ _ w' (slArg dataRd_ok ha0 ra0 (Tt T hb')) (stArg (R:=typeRd) (typeRd_in ⟨_,_,_,rfl,⟨SlAt.now typeRd_ok h24 (Nat.le_refl _) (Tt T hb'),r24⟩⟩))))<|RQ.y rfl (Y.pick (b:=true) (v:=.bool y25) (vb rfl c12) rfl)<|RQ.y rfl (Y.move (v:=.bool y25) rfl) ?_
     rcases bcases y25 with c27|c27
     ·replace hm:=cF c27 hm
      iterate 6 refine RQ.skip (wantN (dj:=60) rfl (vb rfl c27) rfl) ?_
      refine RQ.y rfl (Y.pick (b:=false) (v:=.bool false) (vb rfl c27) rfl)<|RQ.y rfl (Y.assign (v:=.bool false) rfl)<|RQ.nil ?_
      intro w28 hb29
      have szw28:=hb29.size
      have T:=Tt T hb29
      refine then_n<|wp_ret ?_
      obtain rfl:=sj hm
      exact (blk_r (then_r (ret1 rfl rfl rfl ⟨rfl,T⟩)))
     replace hm:=cT c27 hm
     refine RQ.y (wantT (dj:=60) rfl (vb rfl c27)) (Y.move (v:=.slice Aa0 d0.length ca0) s0)<|RQ.y (wantT (dj:=60) rfl (vb rfl c27)) (Y.fieldAddr (off:=2) rfl (by kernel_rfl))<|RQ.y (wantT (dj:=60) rfl (vb rfl c27)) (Y.load (v:=.slice (some ⟨b22,o23,none⟩) d1.kids.length c1) rfl (by kernel_rfl) (beC (blkCell B3 (i:=2) rfl))) ?_
     obtain ⟨x30,hx33,hm⟩:=bnd hm
     obtain ⟨k31,hk34,hl35,hx33⟩:=getI_some hx33
     obtain ⟨cs32,hRcs32,hc36⟩:=h1.el hx33
     have hScs32:=hRcs32
     obtain ⟨A37,n37,c37,rfl,⟨h37,r37⟩⟩:=(typeRd_out hRcs32)
     have e37:=h37.len; subst e37
     have q37:=len_le r37
     refine RQ.y (wantT (dj:=60) rfl (vb rfl c27)) (Y.indexAddr (m:=k31) (sz:=3) rfl rfl hk34 hl35 (by kernel_rfl))<|RQ.y (wantT (dj:=60) rfl (vb rfl c27)) (Y.loadN (cs:=[.int .i64 x30.kind,.string x30.name,.slice A37 x30.kids.length c37]) rfl (by kernel_rfl) (cells3 (beC (cellT T (hc36 0 _ rfl))) (beC (cellT T (hc36 1 _ rfl))) (beC (cellT T (hc36 2 _ rfl))))) ?_
     obtain ⟨y38,e39,hm⟩:=bnd hm
     refine RQ.call (wantT (dj:=60) rfl (vb rfl c27)) (am2 rfl rfl) (by kernel_rfl) (v:=.bool y38) (bel (K:=fun _=>True) fun w' hb'=>(ih d0 x30 _ (by rw [← hself]; exact e39) _ _ w' (slArg dataRd_ok ha0 ra0 (Tt T hb')) (stArg (R:=typeRd) (typeRd_in ⟨_,_,_,rfl,⟨SlAt.now typeRd_ok h37 (Nat.le_refl _) (Tt T hb'),r37⟩⟩))))<|RQ.y rfl (Y.pick (b:=true) (v:=.bool y38) (vb rfl c27) rfl)<|RQ.y rfl (Y.assign (v:=.bool y38) rfl)<|RQ.nil ?_
     intro w40 hb41
     have szw40:=hb41.size
     have T:=Tt T hb41
     refine then_n<|wp_ret ?_
     obtain rfl:=sj hm
     exact (blk_r (then_r (ret1 rfl rfl rfl ⟨rfl,T⟩)))
    replace hm:=cT c7 hm
    refine cond_t rfl (vb rfl c7)<|wp_seq<|wp_rb rfl<|RQ.y rfl (Y.fieldAddr (off:=1) rfl (by kernel_rfl))<|RQ.y rfl (Y.load (v:=.string d1.name) rfl (by kernel_rfl) (beC (blkCell B3 (i:=1) rfl)))<|RQ.y rfl (Y.neStr rfl rfl (by kernel_rfl))<|RQ.y rfl (Y.move (v:=.bool (!(d1.name.toList==(ByteArray.mk #[73,110,116]).toList))) rfl) ?_
    rcases bcases (d1.name.toList==(ByteArray.mk #[73,110,116]).toList) with c42|c42
    ·replace hm:=cF c42 hm
     refine RQ.y (wantT (dj:=23) rfl (vbn rfl c42 rfl)) (Y.fieldAddr (off:=1) rfl (by kernel_rfl))<|RQ.y (wantT (dj:=23) rfl (vbn rfl c42 rfl)) (Y.load (v:=.string d1.name) rfl (by kernel_rfl) (beC (blkCell B3 (i:=1) rfl))) ?_
     obtain ⟨y43,e44,hm⟩:=bnd hm
     refine RQ.call (wantT (dj:=23) rfl (vbn rfl c42 rfl)) (am1 rfl) (by kernel_rfl) (v:=.bool y43) (bel (K:=fun _=>True) fun w' hb'=>(c_m_impl_IsUpper d1.name _ e44  w' ))<|RQ.y rfl (Y.pick (b:=true) (v:=.bool y43) (vbn rfl c42 rfl) rfl)<|RQ.y rfl (Y.move (v:=.bool y43) rfl) ?_
     rcases bcases y43 with c45|c45
     ·replace hm:=cF c45 hm
      iterate 4 refine RQ.skip (wantN (dj:=28) rfl (vb rfl c45) rfl) ?_
      refine RQ.y rfl (Y.pick (b:=false) (v:=.bool false) (vb rfl c45) rfl)<|RQ.y rfl (Y.move (v:=.bool false) rfl) ?_
      iterate 5 refine RQ.skip (wantN (dj:=34) rfl rfl rfl) ?_
      refine RQ.y rfl (Y.pick (b:=false) (v:=.bool false) rfl rfl)<|RQ.y rfl (Y.assign (v:=.bool false) rfl)<|RQ.nil ?_
      intro w46 hb47
      have szw46:=hb47.size
      have T:=Tt T hb47
      refine then_n<|wp_ret ?_
      obtain rfl:=sj hm
      exact (blk_r (then_r (ret1 rfl rfl rfl ⟨rfl,T⟩)))
     replace hm:=cT c45 hm
     refine RQ.y (wantT (dj:=28) rfl (vb rfl c45)) (Y.fieldAddr (off:=2) rfl (by kernel_rfl))<|RQ.y (wantT (dj:=28) rfl (vb rfl c45)) (Y.load (v:=.slice A1 d1.kids.length c1) rfl (by kernel_rfl) (beC (blkCell B3 (i:=2) rfl)))<|RQ.y (wantT (dj:=28) rfl (vb rfl c45)) (Y.len (by kernel_rfl) rfl)<|RQ.y (wantT (dj:=28) rfl (vb rfl c45)) (Y.binI (v:=.bool ((d1.kids.length:Int)==0)) rfl rfl rfl)<|RQ.y rfl (Y.pick (b:=true) (v:=.bool ((d1.kids.length:Int)==0)) (vb rfl c45) rfl)<|RQ.y rfl (Y.move (v:=.bool ((d1.kids.length:Int)==0)) rfl) ?_
     rcases bcases ((d1.kids.length:Int)==0) with c48|c48
     ·replace hm:=cF c48 hm
      iterate 5 refine RQ.skip (wantN (dj:=34) rfl (vb rfl c48) rfl) ?_
      refine RQ.y rfl (Y.pick (b:=false) (v:=.bool false) (vb rfl c48) rfl)<|RQ.y rfl (Y.assign (v:=.bool false) rfl)<|RQ.nil ?_
      intro w49 hb50
      have szw49:=hb50.size
      have T:=Tt T hb50
      refine then_n<|wp_ret ?_
      obtain rfl:=sj hm
      exact (blk_r (then_r (ret1 rfl rfl rfl ⟨rfl,T⟩)))
     replace hm:=cT c48 hm
     refine RQ.y (wantT (dj:=34) rfl (vb rfl c48)) (Y.move (v:=.slice Aa0 d0.length ca0) s0)<|RQ.y (wantT (dj:=34) rfl (vb rfl c48)) (Y.fieldAddr (off:=1) rfl (by kernel_rfl))<|RQ.y (wantT (dj:=34) rfl (vb rfl c48)) (Y.load (v:=.string d1.name) rfl (by kernel_rfl) (beC (blkCell B3 (i:=1) rfl))) ?_
     obtain ⟨y51,e52,hm⟩:=bnd hm
     refine RQ.call (wantT (dj:=34) rfl (vb rfl c48)) (am2 rfl rfl) (by kernel_rfl) (v:=.int .i64 y51) (bel (K:=fun _=>True) fun w' hb'=>(c_m_impl_findData d0 d1.name _ e52 _ w' (slArg dataRd_ok ha0 ra0 (Tt T hb'))))<|RQ.y (wantT (dj:=34) rfl (vb rfl c48)) (Y.binI (v:=.bool (decide (y51 ≥ 0))) rfl rfl rfl)<|RQ.y rfl (Y.pick (b:=true) (v:=.bool (decide (y51 ≥ 0))) (vb rfl c48) rfl)<|RQ.y rfl (Y.assign (v:=.bool (decide (y51 ≥ 0))) rfl)<|RQ.nil ?_
     intro w53 hb54
     have szw53:=hb54.size
     have T:=Tt T hb54
     refine then_n<|wp_ret ?_
     obtain rfl:=sj hm
     exact (blk_r (then_r (ret1 rfl rfl rfl ⟨rfl,T⟩)))
    replace hm:=cT c42 hm
    iterate 3 refine RQ.skip (wantN (dj:=23) rfl (vbn rfl c42 rfl) rfl) ?_
    refine RQ.y rfl (Y.pick (b:=false) (v:=.bool false) (vbn rfl c42 rfl) rfl)<|RQ.y rfl (Y.move (v:=.bool false) rfl) ?_
    iterate 4 refine RQ.skip (wantN (dj:=28) rfl rfl rfl) ?_
    refine RQ.y rfl (Y.pick (b:=false) (v:=.bool false) rfl rfl)<|RQ.y rfl (Y.move (v:=.bool false) rfl) ?_
    iterate 5 refine RQ.skip (wantN (dj:=34) rfl rfl rfl) ?_
    refine RQ.y rfl (Y.pick (b:=false) (v:=.bool false) rfl rfl)<|RQ.y rfl (Y.assign (v:=.bool false) rfl)<|RQ.nil ?_
    intro w55 hb56
    have szw55:=hb56.size
    have T:=Tt T hb56
    refine then_n<|wp_ret ?_
    obtain rfl:=sj hm
    exact (blk_r (then_r (ret1 rfl rfl rfl ⟨rfl,T⟩)))
   replace hm:=cT c6 hm
   refine cond_t rfl (vb rfl c6)<|wp_seq<|wp_rs rfl<|RQ.y rfl (Y.fieldAddr (off:=1) rfl (by kernel_rfl))<|RQ.y rfl (Y.load (v:=.string d1.name) rfl (by kernel_rfl) (eqC (blkCell B3 (i:=1) rfl)))<|RQ.y rfl (Y.eqStr rfl rfl (by kernel_rfl))<|RQ.y rfl (Y.move (v:=.bool (d1.name.toList==(ByteArray.mk #[]).toList)) rfl) ?_
   rcases bcases (d1.name.toList==(ByteArray.mk #[]).toList) with c57|c57
   ·replace hm:=cF c57 hm
    iterate 4 refine RQ.skip (wantN (dj:=12) rfl (vb rfl c57) rfl) ?_
    refine RQ.y rfl (Y.pick (b:=false) (v:=.bool false) (vb rfl c57) rfl)<|RQ.y rfl (Y.assign (v:=.bool false) rfl)<|RQ.nil<|then_n<|wp_ret ?_
    obtain rfl:=sj hm
    exact (blk_r (then_r (ret1 rfl rfl rfl ⟨rfl,T⟩)))
   replace hm:=cT c57 hm
   refine RQ.y (wantT (dj:=12) rfl (vb rfl c57)) (Y.fieldAddr (off:=2) rfl (by kernel_rfl))<|RQ.y (wantT (dj:=12) rfl (vb rfl c57)) (Y.load (v:=.slice A1 d1.kids.length c1) rfl (by kernel_rfl) (eqC (blkCell B3 (i:=2) rfl)))<|RQ.y (wantT (dj:=12) rfl (vb rfl c57)) (Y.len (by kernel_rfl) rfl)<|RQ.y (wantT (dj:=12) rfl (vb rfl c57)) (Y.binI (v:=.bool ((d1.kids.length:Int)==0)) rfl rfl rfl)<|RQ.y rfl (Y.pick (b:=true) (v:=.bool ((d1.kids.length:Int)==0)) (vb rfl c57) rfl)<|RQ.y rfl (Y.assign (v:=.bool ((d1.kids.length:Int)==0)) rfl)<|RQ.nil<|then_n<|wp_ret ?_
   obtain rfl:=sj hm
   exact (blk_r (then_r (ret1 rfl rfl rfl ⟨rfl,T⟩)))
noncomputable def m_impl_ValidSignature_1 (d0:DType) (d1:DSignature):Option Bool:=
  ((m_impl_isSimple (SizeOf.sizeOf d0) d1.datas d0).bind fun y8=>some (!y8))
set_option maxHeartbeats 2000000 in
theorem c_m_impl_ValidSignature_1 (d0:DType) (d1:DSignature) (r:Bool) (hm:m_impl_ValidSignature_1 d0 d1=some r) (v0:Value) (v1:Value) (w:World) (hv0:St typeRd w v0 d0) (hv1:Pt signatureRd w v1 d1) :
    Calls Tryz.prog 93 #[v0,v1] w fun e w'=>e=.returned (.bool r)∧Below w.heap.size w w':=by
  obtain ⟨csa0,rfl,hRR0⟩:=hv0
  obtain ⟨A1,n1,c1,rfl,⟨h1,r1⟩⟩:=(typeRd_out hRR0)
  have e1:=h1.len; subst e1
  have q1:=len_le r1
  obtain ⟨ba1,oa1,csa1,rfl,hba1,hRa1,hca1⟩:=hv1
  have hSa1:=hRa1
  obtain ⟨A2,n2,c2,A3,n3,c3,rfl,⟨h2,r2⟩,⟨h3,r3⟩⟩:=hRa1
  have e2:=h2.len; subst e2
  have q2:=len_le r2
  have e3:=h3.len; subst e3
  have q3:=len_le r3
  have T:=Below.refl w.heap.size w
  unfold m_impl_ValidSignature_1 at hm
  refine enter 9 Tryz.func93 rfl rfl rfl ?_
  intro f hf
  have s0:f 0=.agg #[.int .i64 d0.kind,.string d0.name,.slice A1 d0.kids.length c1]:=hf 0 _ rfl
  have s1:f 1=.pointer (some ⟨ba1,oa1,none⟩):=hf 1 _ rfl
  refine wp_seq<|wp_rl rfl ?_
  refine RL.box rfl s0 (fun w4 B5 hb6 szw4=>?_)
  replace B5:Blk w4 w.heap.size 114 #[.int .i64 d0.kind,.string d0.name,.slice A1 d0.kids.length c1]:=B5
  have GB5:w.heap.size≤w.heap.size:=T.size
  have T:=Tt T hb6
  refine RL.y rfl (Y.assign (v:=.bool false) rfl)<|RL.nil<|then_n<|wp_seq<|wp_rb rfl<|RQ.y rfl (Y.fieldAddr (off:=0) s1 (by kernel_rfl))<|RQ.y rfl (Y.load (v:=.slice A2 d1.datas.length c2) rfl (by kernel_rfl) (beC (cellT T (hca1 0 _ rfl))))<|RQ.y rfl (Y.loadN (cs:=[.int .i64 d0.kind,.string d0.name,.slice A1 d0.kids.length c1]) rfl (by kernel_rfl) (cells3 (beC (blkCell B5 (i:=0) rfl)) (beC (blkCell B5 (i:=1) rfl)) (beC (blkCell B5 (i:=2) rfl)))) ?_
  obtain ⟨y8,e9,hm⟩:=bnd hm
  refine RQ.call rfl (am2 rfl rfl) (by kernel_rfl) (v:=.bool y8) (bel (K:=fun _=>True) fun w' hb'=>(c_m_impl_isSimple (SizeOf.sizeOf d0) d1.datas d0 _ e9 _ _ w' (slArg dataRd_ok h2 r2 (Tt T hb')) (stArg (R:=typeRd) (typeRd_in ⟨_,_,_,rfl,⟨SlAt.now typeRd_ok h1 (Nat.le_refl _) (Tt T hb'),r1⟩⟩))))<|RQ.y rfl (Y.not (b':=(!y8)) rfl rfl)<|RQ.y rfl (Y.assign (v:=.bool (!y8)) rfl)<|RQ.nil ?_
  intro w10 hb11
  have szw10:=hb11.size
  have T:=Tt T hb11
  refine then_n<|wp_ret ?_
  obtain rfl:=sj hm
  exact (ret1 rfl rfl rfl ⟨rfl,T⟩)
noncomputable def m_impl_ValidSignature_2 (d0:DType) (d1:DSignature):Option Bool:=
  ((m_impl_isSimple (SizeOf.sizeOf d0) d1.datas d0).bind fun y8=>some (!y8))
set_option maxHeartbeats 2000000 in
theorem c_m_impl_ValidSignature_2 (d0:DType) (d1:DSignature) (r:Bool) (hm:m_impl_ValidSignature_2 d0 d1=some r) (v0:Value) (v1:Value) (w:World) (hv0:St typeRd w v0 d0) (hv1:Pt signatureRd w v1 d1) :
    Calls Tryz.prog 95 #[v0,v1] w fun e w'=>e=.returned (.bool r)∧Below w.heap.size w w':=by
  obtain ⟨csa0,rfl,hRR0⟩:=hv0
  obtain ⟨A1,n1,c1,rfl,⟨h1,r1⟩⟩:=(typeRd_out hRR0)
  have e1:=h1.len; subst e1
  have q1:=len_le r1
  obtain ⟨ba1,oa1,csa1,rfl,hba1,hRa1,hca1⟩:=hv1
  have hSa1:=hRa1
  obtain ⟨A2,n2,c2,A3,n3,c3,rfl,⟨h2,r2⟩,⟨h3,r3⟩⟩:=hRa1
  have e2:=h2.len; subst e2
  have q2:=len_le r2
  have e3:=h3.len; subst e3
  have q3:=len_le r3
  have T:=Below.refl w.heap.size w
  unfold m_impl_ValidSignature_2 at hm
  refine enter 9 Tryz.func95 rfl rfl rfl ?_
  intro f hf
  have s0:f 0=.agg #[.int .i64 d0.kind,.string d0.name,.slice A1 d0.kids.length c1]:=hf 0 _ rfl
  have s1:f 1=.pointer (some ⟨ba1,oa1,none⟩):=hf 1 _ rfl
  refine wp_seq<|wp_rl rfl ?_
  refine RL.box rfl s0 (fun w4 B5 hb6 szw4=>?_)
  replace B5:Blk w4 w.heap.size 114 #[.int .i64 d0.kind,.string d0.name,.slice A1 d0.kids.length c1]:=B5
  have GB5:w.heap.size≤w.heap.size:=T.size
  have T:=Tt T hb6
  refine RL.y rfl (Y.assign (v:=.bool false) rfl)<|RL.nil<|then_n<|wp_seq<|wp_rb rfl<|RQ.y rfl (Y.fieldAddr (off:=0) s1 (by kernel_rfl))<|RQ.y rfl (Y.load (v:=.slice A2 d1.datas.length c2) rfl (by kernel_rfl) (beC (cellT T (hca1 0 _ rfl))))<|RQ.y rfl (Y.loadN (cs:=[.int .i64 d0.kind,.string d0.name,.slice A1 d0.kids.length c1]) rfl (by kernel_rfl) (cells3 (beC (blkCell B5 (i:=0) rfl)) (beC (blkCell B5 (i:=1) rfl)) (beC (blkCell B5 (i:=2) rfl)))) ?_
  obtain ⟨y8,e9,hm⟩:=bnd hm
  refine RQ.call rfl (am2 rfl rfl) (by kernel_rfl) (v:=.bool y8) (bel (K:=fun _=>True) fun w' hb'=>(c_m_impl_isSimple (SizeOf.sizeOf d0) d1.datas d0 _ e9 _ _ w' (slArg dataRd_ok h2 r2 (Tt T hb')) (stArg (R:=typeRd) (typeRd_in ⟨_,_,_,rfl,⟨SlAt.now typeRd_ok h1 (Nat.le_refl _) (Tt T hb'),r1⟩⟩))))<|RQ.y rfl (Y.not (b':=(!y8)) rfl rfl)<|RQ.y rfl (Y.assign (v:=.bool (!y8)) rfl)<|RQ.nil ?_
  intro w10 hb11
  have szw10:=hb11.size
  have T:=Tt T hb11
  refine then_n<|wp_ret ?_
  obtain rfl:=sj hm
  exact (ret1 rfl rfl rfl ⟨rfl,T⟩)
noncomputable def m_impl_ValidSignature_A1 (d0:DSignature):Option Bool:=
  ((m_slices_ContainsFunc_impl_Type_impl_Type d0.defs (fun x0=>m_impl_ValidSignature_2 x0 d0)).bind fun y16=>some (!y16))
noncomputable def m_impl_ValidSignature_A2 (rec1:Int→Option Bool) (i20:Int):Option Bool:=
  ((ck (i20+1)).bind fun s41=>(rec1 s41))
noncomputable def m_impl_ValidSignature_B2 (d0:DSignature) (x23:DData) (rec2:Int→Option Bool) (K2:Option Bool) (i42:Int):Option Bool:=
  (bif (decide (i42 < (x23.cons.length:Int))) then ((getI x23.cons i42).bind fun x45=>((m_slices_ContainsFunc_impl_Type_impl_Type x45.fields (fun x0=>m_impl_ValidSignature_1 x0 d0)).bind fun y62=>(bif y62 then some false else (rec2 (i42+1))))) else (K2))
noncomputable def m_impl_ValidSignature_L2 (d0:DSignature) (x23:DData) (K2:Option Bool):Nat→Int→Option Bool
  |0,_=>none
  |g+1,i42=>m_impl_ValidSignature_B2 d0 x23 (m_impl_ValidSignature_L2 d0 x23 K2 g) K2 i42
noncomputable def m_impl_ValidSignature_B1 (d0:DSignature) (rec1:Int→Option Bool) (K1:Option Bool) (i20:Int):Option Bool:=
  (bif (decide (i20 < (d0.datas.length:Int))) then ((getI d0.datas i20).bind fun x23=>(m_impl_ValidSignature_L2 d0 x23 (m_impl_ValidSignature_A2 rec1 i20) (x23.cons.length+1) 0)) else (K1))
noncomputable def m_impl_ValidSignature_L1 (d0:DSignature) (K1:Option Bool):Nat→Int→Option Bool
  |0,_=>none
  |g+1,i20=>m_impl_ValidSignature_B1 d0 (m_impl_ValidSignature_L1 d0 K1 g) K1 i20
noncomputable def m_impl_ValidSignature (d0:DSignature):Option Bool:=
  ((m_impl_ValidDatas d0.datas).bind fun y7=>(bif y7 then (bif (decide ((d0.defs.length:Int) > 24)) then some false else (m_impl_ValidSignature_L1 d0 (m_impl_ValidSignature_A1 d0) (d0.datas.length+1) 0)) else some false))
set_option maxHeartbeats 2000000 in
theorem c_m_impl_ValidSignature (d0:DSignature) (r:Bool) (hm:m_impl_ValidSignature d0=some r) (v0:Value) (w:World) (hv0:St signatureRd w v0 d0) :
    Calls Tryz.prog 45 #[v0] w fun e w'=>e=.returned (.bool r)∧Below w.heap.size w w':=by
  obtain ⟨csa0,rfl,⟨A1,n1,c1,A2,n2,c2,rfl,⟨h1,r1⟩,⟨h2,r2⟩⟩⟩:=hv0
  have e1:=h1.len; subst e1
  have q1:=len_le r1
  have e2:=h2.len; subst e2
  have q2:=len_le r2
  have T:=Below.refl w.heap.size w
  unfold m_impl_ValidSignature at hm
  refine enter 42 Tryz.func45 rfl rfl rfl ?_
  intro f hf
  have s0:f 0=.agg #[.slice A1 d0.datas.length c1,.slice A2 d0.defs.length c2]:=hf 0 _ rfl
  refine wp_seq<|wp_rl rfl ?_
  refine RL.box rfl s0 (fun w3 B4 hb5 szw3=>?_)
  replace B4:Blk w3 w.heap.size 38 #[.slice A1 d0.datas.length c1,.slice A2 d0.defs.length c2]:=B4
  have GB4:w.heap.size≤w.heap.size:=T.size
  have T:=Tt T hb5
  refine RL.y rfl (Y.assign (v:=.bool false) rfl)<|RL.nil<|then_n<|wp_seq<|wp_seq<|wp_rb rfl<|RQ.y rfl (Y.fieldAddr (off:=0) rfl (by kernel_rfl))<|RQ.y rfl (Y.load (v:=.slice A1 d0.datas.length c1) rfl (by kernel_rfl) (beC (blkCell B4 (i:=0) rfl))) ?_
  obtain ⟨y7,e8,hm⟩:=bnd hm
  refine RQ.call rfl (am1 rfl) (by kernel_rfl) (v:=.bool y7) (bel (K:=fun _=>True) fun w' hb'=>(c_m_impl_ValidDatas d0.datas _ e8 _ w' (slArg dataRd_ok h1 r1 (Tt T hb'))))<|RQ.y rfl (Y.not (b':=(!y7)) rfl rfl)<|RQ.y rfl (Y.move (v:=.bool (!y7)) rfl) ?_
  rcases bcases y7 with c9|c9
  ·replace hm:=cF c9 hm
   iterate 4 refine RQ.skip (wantN (dj:=11) rfl (vbn rfl c9 rfl) rfl) ?_
   refine RQ.y rfl (Y.pick (b:=true) (v:=.bool true) (vbn rfl c9 rfl) rfl)<|RQ.nil ?_
   intro w10 hb11
   have szw10:=hb11.size
   have B4:=blkT B4 hb11
   have T:=Tt T hb11
   refine then_n<|cond_t rfl rfl<|wp_seq<|wp_rs rfl<|RQ.y rfl (Y.assign (v:=.bool false) rfl)<|RQ.nil<|then_n<|wp_ret ?_
   obtain rfl:=sj hm
   exact (then_r (ret1 rfl rfl rfl ⟨rfl,T⟩))
  replace hm:=cT c9 hm
  refine RQ.y (wantT (dj:=11) rfl (vbn rfl c9 rfl)) (Y.fieldAddr (off:=1) rfl (by kernel_rfl))<|RQ.y (wantT (dj:=11) rfl (vbn rfl c9 rfl)) (Y.load (v:=.slice A2 d0.defs.length c2) rfl (by kernel_rfl) (beC (blkCell B4 (i:=1) rfl)))<|RQ.y (wantT (dj:=11) rfl (vbn rfl c9 rfl)) (Y.len (by kernel_rfl) rfl)<|RQ.y (wantT (dj:=11) rfl (vbn rfl c9 rfl)) (Y.binI (v:=.bool (decide ((d0.defs.length:Int) > 24))) rfl rfl rfl)<|RQ.y rfl (Y.pick (b:=false) (v:=.bool (decide ((d0.defs.length:Int) > 24))) (vbn rfl c9 rfl) rfl)<|RQ.nil ?_
  intro w12 hb13
  have szw12:=hb13.size
  have B4:=blkT B4 hb13
  have T:=Tt T hb13
  refine then_n ?_
  rcases bcases (decide ((d0.defs.length:Int) > 24)) with c14|c14
  ·replace hm:=cF c14 hm
   have pc14:=of_decide_eq_false c14
   refine cond_f rfl (vb rfl c14)<|wp_skip<|then_n<|wp_seq<|wp_seq<|wp_rs rfl<|RQ.y rfl (Y.fieldAddr (off:=0) rfl (by kernel_rfl))<|RQ.y rfl (Y.load (v:=.slice A1 d0.datas.length c1) rfl (by kernel_rfl) (eqC (blkCell B4 (i:=0) rfl)))<|RQ.y rfl (Y.len (by kernel_rfl) rfl)<|RQ.y rfl (Y.move (v:=.int .i64 0) rfl)<|RQ.nil<|then_n<|wp_block ?_
   obtain ⟨K1,hK1,hm⟩ :∃K,K=(m_impl_ValidSignature_A1 d0)∧m_impl_ValidSignature_L1 d0 K (d0.datas.length+1) 0=some r:=⟨_,rfl,hm⟩
   refine wp_loopX (fun g f w'=>∃(i20:Int),f 1=.pointer (some ⟨w.heap.size,0,none⟩)∧f 18=.slice A1 d0.datas.length c1∧f 19=.int .i64 (d0.datas.length:Int)∧f 20=.int .i64 i20∧0≤i20∧Blk w' w.heap.size 38 #[.slice A1 d0.datas.length c1,.slice A2 d0.defs.length c2]∧Below w.heap.size w w'∧m_impl_ValidSignature_L1 d0 K1 g i20=some r) 0 (fun f w'=>f 1=.pointer (some ⟨w.heap.size,0,none⟩)∧Blk w' w.heap.size 38 #[.slice A1 d0.datas.length c1,.slice A2 d0.defs.length c2]∧Below w.heap.size w w'∧m_impl_ValidSignature_A1 d0  = some r) (d0.datas.length+1) ⟨0,rfl,rfl,rfl,rfl,(by omega),B4,T,hm⟩ ?_ ?_
   ·rintro f w15 ⟨s1_1x,B4,T,hm⟩
    unfold m_impl_ValidSignature_A1 at hm
    refine blk_hit (then_n ?_)
    refine wp_seq<|wp_rb rfl<|RQ.y rfl (Y.fieldAddr (off:=1) s1_1x (by kernel_rfl))<|RQ.y rfl (Y.load (v:=.slice A2 d0.defs.length c2) rfl (by kernel_rfl) (beC (blkCell B4 (i:=1) rfl)))<|RQ.y rfl (Y.makeFunc (vals:=#[.pointer (some ⟨w.heap.size,0,none⟩)]) (am1 s1_1x)) ?_
    obtain ⟨y16,e17,hm⟩:=bnd hm
    refine RQ.call rfl (am2 rfl rfl) (by kernel_rfl) (v:=.bool y16) (bel (K:=fun _=>True) fun w' hb'=>(c_m_slices_ContainsFunc_impl_Type_impl_Type d0.defs (fun x0=>m_impl_ValidSignature_2 x0 d0) _ e17 _ _ _ w' (slArg typeRd_ok h2 r2 (Tt T hb')) (by kernel_rfl) (fun x0 b hx w1 hb1 y0 hy0=>Calls.arr (by simp) (c_m_impl_ValidSignature_2 x0 d0 _ hx _ _ w1 hy0 (ptBox (R:=signatureRd) (blkT B4 (Tt hb' hb1)) ⟨_,_,_,_,_,_,rfl,⟨SlAt.now dataRd_ok h1 (Nat.le_refl _) (Tt (Tt T hb') hb1),r1⟩,⟨SlAt.now typeRd_ok h2 (Nat.le_refl _) (Tt (Tt T hb') hb1),r2⟩⟩)))))<|RQ.y rfl (Y.not (b':=(!y16)) rfl rfl)<|RQ.y rfl (Y.assign (v:=.bool (!y16)) rfl)<|RQ.nil ?_
    intro w18 hb19
    have szw18:=hb19.size
    have T:=Tt T hb19
    refine then_n<|wp_ret ?_
    obtain rfl:=sj hm
    exact (ret1 rfl rfl rfl ⟨rfl,T⟩)
   rintro g f w21 ⟨i20,s1_1,s18_1,s19_1,s20_1,nn20_1,B4,T,hm⟩
   rcases g with _|g
   ·simp only [m_impl_ValidSignature_L1] at hm; cases hm
   obtain ⟨rec1,hrec1,hm⟩ :∃z,z=m_impl_ValidSignature_L1 d0 K1 g∧m_impl_ValidSignature_B1 d0 z K1 i20=some r:=⟨_,rfl,hm⟩
   unfold m_impl_ValidSignature_B1 at hm
   refine wp_seq<|wp_rs rfl<|RQ.y rfl (Y.binI (v:=.bool (decide (i20 < (d0.datas.length:Int)))) s20_1 s19_1 rfl)<|RQ.nil<|then_n<|wp_seq ?_
   rcases bcases (decide (i20 < (d0.datas.length:Int))) with c22|c22
   ·replace hm:=cF c22 hm
    have pc22:=of_decide_eq_false c22
    refine cond_f rfl (vb rfl c22)<|wp_exit ?_
    exact (then_x (then_x (hit_x ⟨_,rfl,⟨s1_1,B4,T,(by rw [hK1] at hm; exact hm)⟩⟩)))
   replace hm:=cT c22 hm
   have pc22:=of_decide_eq_true c22
   refine cond_t rfl (vb rfl c22)<|wp_skip<|then_n<|wp_seq<|wp_block<|wp_seq<|wp_rl rfl ?_
   obtain ⟨x23,hx26,hm⟩:=bnd hm
   obtain ⟨k24,hk27,hl28,hx26⟩:=getI_some hx26
   obtain ⟨b30,o31,rfl,hbb30⟩:=h1.addr (by omega)
   obtain ⟨cs25,hRcs25,hc29⟩:=h1.el hx26
   have hScs25:=hRcs25
   obtain ⟨A32,n32,c32,rfl,⟨h32,r32⟩⟩:=hRcs25
   have e32:=h32.len; subst e32
   have q32:=len_le r32
   refine RL.y rfl (Y.indexAddr (m:=k24) (sz:=2) s18_1 s20_1 hk27 hl28 (by kernel_rfl))<|RL.y rfl (Y.loadN (cs:=[.string x23.name,.slice A32 x23.cons.length c32]) rfl (by kernel_rfl) (cells2 (eqC (cellT T (hc29 0 _ rfl))) (eqC (cellT T (hc29 1 _ rfl))))) ?_
   refine RL.alloc (z:=.agg #[.string ByteArray.empty,.slice none 0 0]) rfl (by kernel_rfl) (fun w33 B34 hb35 szw33=>?_)
   replace B34:Blk w33 w21.heap.size 167 #[.string ByteArray.empty,.slice none 0 0]:=B34
   have GB34:w.heap.size≤w21.heap.size:=T.size
   have Eob36_ob6:=Nat.ne_of_lt B4.lt
   have B4:=blkT B4 hb35
   have T:=Tt T hb35
   refine RL.store (v:=.agg #[.string x23.name,.slice A32 x23.cons.length c32]) (cs':=#[.string x23.name,.slice A32 x23.cons.length c32]) rfl rfl rfl B34 (by kernel_rfl) (by rfl) (by rfl) (by rfl) (fun w37 B38 ho39=>?_)
   have szw37:=ho39.size
   have B4:=B4.only_ ho39 (by intro hin; simp at hin; exact Eob36_ob6 hin)
   have T:=T.trans (ho39.below (by first|(simp; done)|(simp; omega)))
   refine RL.nil<|then_n<|wp_seq<|wp_rs rfl<|RQ.y rfl (Y.fieldAddr (off:=1) rfl (by kernel_rfl))<|RQ.y rfl (Y.load (v:=.slice A32 x23.cons.length c32) rfl (by kernel_rfl) (eqC (blkCell B38 (i:=1) rfl)))<|RQ.y rfl (Y.len (by kernel_rfl) rfl)<|RQ.y rfl (Y.move (v:=.int .i64 0) rfl)<|RQ.nil<|then_n<|wp_block ?_
   obtain ⟨K2,hK2,hm⟩ :∃K,K=(m_impl_ValidSignature_A2 rec1 i20)∧m_impl_ValidSignature_L2 d0 x23 K (x23.cons.length+1) 0=some r:=⟨_,rfl,hm⟩
   refine wp_loopX (fun g f w'=>∃(i42:Int),f 1=.pointer (some ⟨w.heap.size,0,none⟩)∧f 18=.slice (some ⟨b30,o31,none⟩) d0.datas.length c1∧f 19=.int .i64 (d0.datas.length:Int)∧f 20=.int .i64 i20∧f 25=.slice A32 x23.cons.length c32∧f 26=.int .i64 (x23.cons.length:Int)∧f 27=.int .i64 i42∧0≤i42∧Blk w' w.heap.size 38 #[.slice (some ⟨b30,o31,none⟩) d0.datas.length c1,.slice A2 d0.defs.length c2]∧Below w.heap.size w w'∧m_impl_ValidSignature_L2 d0 x23 K2 g i42=some r) 2 (fun f w'=>f 1=.pointer (some ⟨w.heap.size,0,none⟩)∧f 18=.slice (some ⟨b30,o31,none⟩) d0.datas.length c1∧f 19=.int .i64 (d0.datas.length:Int)∧f 20=.int .i64 i20∧Blk w' w.heap.size 38 #[.slice (some ⟨b30,o31,none⟩) d0.datas.length c1,.slice A2 d0.defs.length c2]∧Below w.heap.size w w'∧m_impl_ValidSignature_A2 rec1 i20  = some r) (x23.cons.length+1) ⟨0,s1_1,s18_1,s19_1,s20_1,rfl,rfl,rfl,(by omega),B4,T,hm⟩ ?_ ?_
   ·rintro f w40 ⟨s1_2x,s18_2x,s19_2x,s20_2x,B4,T,hm⟩
    unfold m_impl_ValidSignature_A2 at hm
    refine blk_hit (blk_n (then_n ?_))
    refine wp_rs rfl ?_
    obtain ⟨s41,ks41,hm⟩:=bnd hm
    replace ks41:=ck_some ks41
    refine RQ.y rfl (Y.binI (v:=.int .i64 s41) s20_2x rfl (by rw [binI_add ks41.2,ks41.1]))<|RQ.y rfl (Y.move (v:=.int .i64 s41) rfl)<|RQ.nil ?_
    exact (then_n ⟨g,_,Nat.lt_succ_self _,rfl,⟨s41,s1_2x,s18_2x,s19_2x,rfl,(by omega),B4,T,(by rw [← hrec1]; exact hm)⟩⟩)
   rintro g f w43 ⟨i42,s1_2,s18_2,s19_2,s20_2,s25_2,s26_2,s27_2,nn27_2,B4,T,hm⟩
   rcases g with _|g
   ·simp only [m_impl_ValidSignature_L2] at hm; cases hm
   obtain ⟨rec2,hrec2,hm⟩ :∃z,z=m_impl_ValidSignature_L2 d0 x23 K2 g∧m_impl_ValidSignature_B2 d0 x23 z K2 i42=some r:=⟨_,rfl,hm⟩
   unfold m_impl_ValidSignature_B2 at hm
   refine wp_seq<|wp_rs rfl<|RQ.y rfl (Y.binI (v:=.bool (decide (i42 < (x23.cons.length:Int)))) s27_2 s26_2 rfl)<|RQ.nil<|then_n<|wp_seq ?_
   rcases bcases (decide (i42 < (x23.cons.length:Int))) with c44|c44
   ·replace hm:=cF c44 hm
    have pc44:=of_decide_eq_false c44
    refine cond_f rfl (vb rfl c44)<|wp_exit ?_
    exact (then_x (then_x (hit_x ⟨_,rfl,⟨s1_2,s18_2,s19_2,s20_2,B4,T,(by rw [hK2] at hm; exact hm)⟩⟩)))
   replace hm:=cT c44 hm
   have pc44:=of_decide_eq_true c44
   refine cond_t rfl (vb rfl c44)<|wp_skip<|then_n<|wp_seq<|wp_block<|wp_seq<|wp_rl rfl ?_
   obtain ⟨x45,hx48,hm⟩:=bnd hm
   obtain ⟨k46,hk49,hl50,hx48⟩:=getI_some hx48
   obtain ⟨b52,o53,rfl,hbb52⟩:=h32.addr (by omega)
   obtain ⟨cs47,hRcs47,hc51⟩:=h32.el hx48
   have hScs47:=hRcs47
   obtain ⟨A54,n54,c54,rfl,⟨h54,r54⟩⟩:=hRcs47
   have e54:=h54.len; subst e54
   have q54:=len_le r54
   refine RL.y rfl (Y.indexAddr (m:=k46) (sz:=2) s25_2 s27_2 hk49 hl50 (by kernel_rfl))<|RL.y rfl (Y.loadN (cs:=[.string x45.name,.slice A54 x45.fields.length c54]) rfl (by kernel_rfl) (cells2 (eqC (cellT T (hc51 0 _ rfl))) (eqC (cellT T (hc51 1 _ rfl))))) ?_
   refine RL.alloc (z:=.agg #[.string ByteArray.empty,.slice none 0 0]) rfl (by kernel_rfl) (fun w55 B56 hb57 szw55=>?_)
   replace B56:Blk w55 w43.heap.size 173 #[.string ByteArray.empty,.slice none 0 0]:=B56
   have GB56:w.heap.size≤w43.heap.size:=T.size
   have Eob58_ob6:=Nat.ne_of_lt B4.lt
   have B4:=blkT B4 hb57
   have T:=Tt T hb57
   refine RL.store (v:=.agg #[.string x45.name,.slice A54 x45.fields.length c54]) (cs':=#[.string x45.name,.slice A54 x45.fields.length c54]) rfl rfl rfl B56 (by kernel_rfl) (by rfl) (by rfl) (by rfl) (fun w59 B60 ho61=>?_)
   have szw59:=ho61.size
   have B4:=B4.only_ ho61 (by intro hin; simp at hin; exact Eob58_ob6 hin)
   have T:=T.trans (ho61.below (by first|(simp; done)|(simp; omega)))
   refine RL.nil<|then_n<|wp_seq<|wp_rb rfl<|RQ.y rfl (Y.fieldAddr (off:=1) rfl (by kernel_rfl))<|RQ.y rfl (Y.load (v:=.slice A54 x45.fields.length c54) rfl (by kernel_rfl) (beC (blkCell B60 (i:=1) rfl)))<|RQ.y rfl (Y.makeFunc (vals:=#[.pointer (some ⟨w.heap.size,0,none⟩)]) (am1 s1_2)) ?_
   obtain ⟨y62,e63,hm⟩:=bnd hm
   refine RQ.call rfl (am2 rfl rfl) (by kernel_rfl) (v:=.bool y62) (bel (K:=fun _=>True) fun w' hb'=>(c_m_slices_ContainsFunc_impl_Type_impl_Type x45.fields (fun x0=>m_impl_ValidSignature_1 x0 d0) _ e63 _ _ _ w' (slArg typeRd_ok h54 r54 (Tt T hb')) (by kernel_rfl) (fun x0 b hx w1 hb1 y0 hy0=>Calls.arr (by simp) (c_m_impl_ValidSignature_1 x0 d0 _ hx _ _ w1 hy0 (ptBox (R:=signatureRd) (blkT B4 (Tt hb' hb1)) ⟨_,_,_,_,_,_,rfl,⟨SlAt.now dataRd_ok h1 (Nat.le_refl _) (Tt (Tt T hb') hb1),r1⟩,⟨SlAt.now typeRd_ok h2 (Nat.le_refl _) (Tt (Tt T hb') hb1),r2⟩⟩)))))<|RQ.nil ?_
   intro w64 hb65
   have szw64:=hb65.size
   have B4:=blkT B4 hb65
   have T:=Tt T hb65
   refine then_n ?_
   rcases bcases y62 with c66|c66
   ·replace hm:=cF c66 hm
    refine cond_f rfl (vb rfl c66)<|wp_skip ?_
    refine blk_n (then_n ?_)
    refine wp_rs rfl<|RQ.y rfl (Y.binI s27_2 rfl (binI_add (m:=i42) (by omega)))<|RQ.y rfl (Y.move (v:=.int .i64 (i42+1)) rfl)<|RQ.nil ?_
    exact (then_n ⟨g,_,Nat.lt_succ_self _,rfl,⟨(i42+1),s1_2,s18_2,s19_2,s20_2,s25_2,s26_2,rfl,(by omega),B4,T,(by rw [← hrec2]; exact hm)⟩⟩)
   replace hm:=cT c66 hm
   refine cond_t rfl (vb rfl c66)<|wp_seq<|wp_rs rfl<|RQ.y rfl (Y.assign (v:=.bool false) rfl)<|RQ.nil<|then_n<|wp_ret ?_
   obtain rfl:=sj hm
   exact (blk_r (then_r (then_r (hit_r (blk_r (blk_r (then_r (then_r (hit_r (blk_r (then_r (ret1 rfl rfl rfl ⟨rfl,T⟩))))))))))))
  replace hm:=cT c14 hm
  have pc14:=of_decide_eq_true c14
  refine cond_t rfl (vb rfl c14)<|wp_seq<|wp_rs rfl<|RQ.y rfl (Y.assign (v:=.bool false) rfl)<|RQ.nil<|then_n<|wp_ret ?_
  obtain rfl:=sj hm
  exact (then_r (ret1 rfl rfl rfl ⟨rfl,T⟩))
end
section
open Go.RowKit
/-- A loop that goes on while p holds. -/
theorem allK {α β:Type} {d:List α} {L:Nat→Int→Option β} {p:α→Bool} {K z:Option β} (h :∀g (k:Nat) (hk:k < d.length),L (g+1) (k:Int)=bif p d[k] then L g ((k:Int)+1) else z) (he :∀g,L (g+1) (d.length:Int)=K) (g:Nat) (hg:d.length < g):L g 0=bif d.all p then K else z:=by
  have key :∀(m k g:Nat),k+m=d.length→m < g→L g (k:Int)=bif (d.drop k).all p then K else z:=by
    intro m
    induction m with
    |zero=>
      intro k g hk hg
      obtain ⟨g,rfl⟩ :∃g',g=g'+1:=⟨g - 1,by omega⟩
      obtain rfl:k=d.length:=by omega
      rw [he,List.drop_length]; rfl
    |succ m ih=>
      intro k g hk hg
      obtain ⟨g,rfl⟩ :∃g',g=g'+1:=⟨g - 1,by omega⟩
      have hl:k < d.length:=by omega
      rw [h g k hl,List.drop_eq_getElem_cons hl,List.all_cons]
      cases hp:p d[k] with
      |false=>rfl
      |true=>exact ih (k+1) g (by omega) (by omega)
  exact key d.length 0 g (by omega) hg
/-- The first index at which p holds, or -1. -/
def idxD {α:Type} (d:List α) (p:α→Bool):Int:=match d.findIdx? p with|some i=>(i:Int)|none=>-1
theorem idxK {α:Type} {d:List α} {L:Nat→Int→Option Int} {p:α→Bool} (h :∀g (k:Nat) (hk:k < d.length),L (g+1) (k:Int)=bif p d[k] then some (k:Int) else L g ((k:Int)+1)) (he :∀g,L (g+1) (d.length:Int)=some (-1)) (g:Nat) (hg:d.length < g):L g 0=some (idxD d p):=by
  have key :∀(m k g:Nat),k+m=d.length→m < g→L g (k:Int)=some (match (d.drop k).findIdx? p with|some i=>((k+i:Nat):Int)|none=>-1):=by
    intro m
    induction m with
    |zero=>
      intro k g hk hg
      obtain ⟨g,rfl⟩ :∃g',g=g'+1:=⟨g - 1,by omega⟩
      obtain rfl:k=d.length:=by omega
      rw [he,List.drop_length]; rfl
    |succ m ih=>
      intro k g hk hg
      obtain ⟨g,rfl⟩ :∃g',g=g'+1:=⟨g - 1,by omega⟩
      have hl:k < d.length:=by omega
      rw [h g k hl,List.drop_eq_getElem_cons hl,List.findIdx?_cons]
      cases hp:p d[k] with
      |true=>simp
      |false=>
        have:=ih (k+1) g (by omega) (by omega)
        simp only [cond_false,Bool.false_eq_true,if_false]
        rw [show ((k:Int)+1)=((k+1:Nat):Int) by omega,this]
        cases (d.drop (k+1)).findIdx? p with
        |none=>rfl
        |some i=>
          show some (((k+1+i:Nat):Int))=some (((k+(i+1):Nat):Int))
          congr 1; omega
  have:=key d.length 0 g (by omega) hg
  rw [List.drop_zero] at this
  refine this.trans ?_
  unfold idxD
  cases d.findIdx? p <;> simp
theorem idxD_ge {α:Type} (d:List α) (p:α→Bool):decide (idxD d p ≥ 0)=d.any p:=by
  unfold idxD
  cases h:d.findIdx? p with
  |none=>
    have:=List.findIdx?_eq_none_iff.1 h
    rw [List.any_eq_false.2 (fun x hx=>by simp [this x hx])]
    rfl
  |some i=>
    have h2:d.any p=true:=by
      have:=List.findIdx?_eq_some_iff_getElem.1 h
      obtain ⟨hl,hp,_⟩:=this
      exact List.any_eq_true.2 ⟨d[i],List.getElem_mem _,hp⟩
    rw [h2]; simp
theorem idxD_lt {α:Type} (d:List α) (p:α→Bool):decide (idxD d p < 0) = !(d.any p):=by
  rw [← idxD_ge]
  by_cases h:idxD d p < 0
  · rw [decide_eq_true h,decide_eq_false (by omega)]; rfl
  · rw [decide_eq_false h,decide_eq_true (by omega)]; rfl
theorem idxD_take {α:Type} (d:List α) (p:α→Bool) (i:Nat) (hi:i < d.length) (hp:p d[i] = true):(idxD d p != (i:Int))=(d.take i).any p:=by
  unfold idxD
  cases h:d.findIdx? p with
  |none=>
    have:=List.findIdx?_eq_none_iff.1 h d[i] (List.getElem_mem _)
    rw [hp] at this; cases this
  |some j=>
    obtain ⟨hl,hpj,hlt⟩:=List.findIdx?_eq_some_iff_getElem.1 h
    by_cases hij:j < i
    · have h2:(d.take i).any p=true:=List.any_eq_true.2 ⟨d[j],by
        rw [List.mem_take_iff_getElem]
        exact ⟨j,by omega,rfl⟩,hpj⟩
      rw [h2]; simp; omega
    · have hji:j=i:=by
        rcases Nat.lt_or_ge i j with h3|h3
        · have:=hlt i h3
          rw [hp] at this; simp at this
        · omega
      subst hji
      have h2:(d.take j).any p=false:=List.any_eq_false.2 (fun x hx=>by
        rw [List.mem_take_iff_getElem] at hx
        obtain ⟨k,hk,rfl⟩:=hx
        exact hlt k (by omega))
      rw [h2]; simp
theorem size_toL (s:ByteArray):s.size=s.data.toList.length:=Array.length_toList.symm
theorem getB_nat (s:ByteArray) (k:Nat) (hk:k < s.data.toList.length):getB s (k:Int)=some ((s.data.toList[k].toNat:Nat):Int):=by
  unfold getB
  rw [if_pos (by omega),Int.toNat_natCast]
  have hk2:k < s.size:=by rw [size_toL]; exact hk
  have e:s[k]? = some s[k]:=by
    rw [getElem?_pos s k hk2]
  rw [e,Option.map_some]
  rfl
def b0 (s:ByteArray):Int:=match s.data.toList with|[]=>0|c :: _=>(c.toNat:Int)
theorem getB_zero (s:ByteArray) (h:1≤s.size):getB s 0=some (b0 s):=by
  have h1:0 < s.data.toList.length:=by rw [← size_toL]; omega
  refine (getB_nat s 0 h1).trans ?_
  unfold b0
  revert h1
  cases s.data.toList with
  |nil=>intro h1; cases h1
  |cons c cs=>intro h1; rfl
def letterB (b:Int):Bool:=(decide (b ≥ 97) && decide (b≤122))||(decide (b ≥ 65) && decide (b≤90))
def digitB (b:Int):Bool:=decide (b ≥ 48) && decide (b≤57)
def wordB (b:UInt8):Bool:=letterB (b.toNat:Int)||digitB (b.toNat:Int)
def keyL:List ByteArray:=[(ByteArray.mk #[100,97,116,97]),(ByteArray.mk #[100,101,102]),(ByteArray.mk #[108,101,116]),(ByteArray.mk #[105,110]),(ByteArray.mk #[109,97,116,99,104]),(ByteArray.mk #[105,102]),(ByteArray.mk #[116,104,101,110]),(ByteArray.mk #[101,108,115,101])]
def keyD (s:ByteArray):Bool:=keyL.any fun x=>decide (x=s)
def nameD (s:ByteArray):Bool:=decide (1≤s.size) && (decide (s.size≤12) && (letterB (b0 s) && (!keyD s && s.data.toList.all wordB)))
def upperD (s:ByteArray):Bool:=nameD s && decide (b0 s≤90)
theorem upperD_size {s:ByteArray} (h:upperD s=true):s.size≤12:=by
  unfold upperD nameD at h
  simp only [Bool.and_eq_true,decide_eq_true_eq] at h
  exact h.1.2.1
theorem p_letter (b:Int):m_spec_l01Letter b=some (letterB b):=by
  unfold m_spec_l01Letter letterB
  cases decide (b ≥ 97) <;> cases decide (b≤122) <;> cases decide (b ≥ 65) <;> cases decide (b≤90) <;> rfl
theorem p_digit (b:Int):m_spec_l01Digit b=some (digitB b):=by
  unfold m_spec_l01Digit digitB
  cases decide (b ≥ 48) <;> rfl
theorem p_sKeyword (s:ByteArray):m_spec_IsKeyword s=some (keyD s):=by
  unfold m_spec_IsKeyword
  have key:=allK (L:=m_spec_IsKeyword_L1 s m_spec_IsKeyword_A1) (d:=keyL) (p:=fun x=>!decide (x=s)) (K:=some false) (z:=some true)
    (fun g k hk=>by
      have e:m_spec_IsKeyword_L1 s m_spec_IsKeyword_A1 (g+1) (k:Int)=(bif decide ((k:Int) < (keyL.length:Int)) then (getI keyL (k:Int)).bind fun x23=>(bif (x23.toList==s.toList) then some true else (m_spec_IsKeyword_L1 s m_spec_IsKeyword_A1 g ((k:Int)+1))) else m_spec_IsKeyword_A1):=rfl
      rw [e,dlt hk,cond_true,getI_lt hk,Option.bind_some,nameEq]
      cases decide (keyL[k] = s) <;> rfl)
    (fun g=>by
      have e:m_spec_IsKeyword_L1 s m_spec_IsKeyword_A1 (g+1) (keyL.length:Int)=(bif decide ((keyL.length:Int) < (keyL.length:Int)) then (getI keyL (keyL.length:Int)).bind fun x23=>(bif (x23.toList==s.toList) then some true else (m_spec_IsKeyword_L1 s m_spec_IsKeyword_A1 g ((keyL.length:Int)+1))) else m_spec_IsKeyword_A1):=rfl
      rw [e,dge,cond_false]; rfl)
    10 (by decide)
  rw [key]
  unfold keyD
  rw [← List.not_any_eq_all_not]
  cases keyL.any fun x=>decide (x=s) <;> rfl
theorem p_sName (s:ByteArray):m_spec_IsName s=some (nameD s):=by
  unfold m_spec_IsName nameD
  by_cases h1:1≤s.size
  · rw [decide_eq_false (show ¬ (s.size:Int) < 1 by omega),cond_false,decide_eq_true h1,Bool.true_and]
    by_cases h2:s.size≤12
    · rw [decide_eq_false (show ¬ (s.size:Int) > 12 by omega),cond_false,decide_eq_true h2,Bool.true_and,getB_zero s h1,Option.bind_some,p_letter,Option.bind_some,p_sKeyword,Option.bind_some]
      have key:=allK (L:=m_spec_IsName_L1 s m_spec_IsName_A1) (d:=s.data.toList) (p:=wordB) (K:=some true) (z:=some false)
        (fun g k hk=>by
          have hd:decide ((k:Int) < (s.size:Int))=true:=by rw [size_toL]; exact dlt hk
          simp -implicitDefEqProofs only [m_spec_IsName_L1,m_spec_IsName_B1,hd,cond_true,getB_nat s k hk,Option.bind_some,p_letter,p_digit]
          unfold wordB
          cases letterB (s.data.toList[k].toNat:Int) <;> cases digitB (s.data.toList[k].toNat:Int) <;> rfl)
        (fun g=>by
          have hd:decide ((s.data.toList.length:Int) < (s.size:Int))=false:=by rw [size_toL]; exact dge
          simp -implicitDefEqProofs only [m_spec_IsName_L1,m_spec_IsName_B1,hd,cond_false,m_spec_IsName_A1])
        (s.size+1) (by rw [size_toL]; omega)
      rw [key]
      cases letterB (b0 s) <;> cases keyD s <;> cases s.data.toList.all wordB <;> rfl
    · rw [decide_eq_true (show (s.size:Int) > 12 by omega),cond_true,decide_eq_false h2]; rfl
  · rw [decide_eq_true (show (s.size:Int) < 1 by omega),cond_true,decide_eq_false h1]; rfl
theorem p_sUpper (s:ByteArray):m_spec_IsUpper s=some (upperD s):=by
  unfold m_spec_IsUpper upperD
  rw [p_sName,Option.bind_some]
  cases h:nameD s with
  |false=>rfl
  |true=>
    have h1:1≤s.size:=by unfold nameD at h; simp only [Bool.and_eq_true,decide_eq_true_eq] at h; exact h.1
    rw [cond_true,getB_zero s h1,Option.bind_some]; rfl
theorem p_IndexS (d:List ByteArray) (s:ByteArray):m_slices_Index_string_string d s=some (idxD d fun x=>decide (x=s)):=by
  unfold m_slices_Index_string_string
  exact idxK (L:=m_slices_Index_string_string_L1 d s m_slices_Index_string_string_A1) (d:=d)
    (fun g k hk=>by
      simp -implicitDefEqProofs only [m_slices_Index_string_string_L1,m_slices_Index_string_string_B1,dlt hk,cond_true,getI_lt hk,Option.bind_some,nameEq]
      rw [show decide (s=d[k])=decide (d[k] = s) from decide_eq_decide.2 eq_comm])
    (fun g=>by simp -implicitDefEqProofs only [m_slices_Index_string_string_L1,m_slices_Index_string_string_B1,dge,cond_false,m_slices_Index_string_string_A1]) _ (Nat.lt_succ_self _)
theorem p_iKeyword (s:ByteArray):m_impl_IsKeyword s=some (keyD s):=by
  unfold m_impl_IsKeyword m_slices_Contains_string_string
  show ((m_slices_Index_string_string keyL s).bind _).bind _=_
  rw [p_IndexS,Option.bind_some,idxD_ge]; rfl
theorem p_iDigit (b:Int):m_impl_isDigit b=some (digitB b):=by
  unfold m_impl_isDigit digitB
  cases decide (b ≥ 48) <;> rfl
theorem p_iWord (b:Int):m_impl_isWordByte b=some (letterB b||digitB b):=by
  unfold m_impl_isWordByte m_impl_isSmall m_impl_isCapital letterB
  rw [p_iDigit]
  cases decide (b ≥ 97) <;> cases decide (b≤122) <;> cases decide (b ≥ 65) <;> cases decide (b≤90) <;> rfl
theorem p_iName (s:ByteArray):m_impl_IsName s=some (nameD s):=by
  unfold m_impl_IsName nameD
  by_cases h1:1≤s.size
  · rw [decide_eq_false (show ¬ (s.size:Int) < 1 by omega),cond_false,decide_eq_true h1,Bool.true_and]
    by_cases h2:s.size≤12
    · rw [decide_eq_false (show ¬ (s.size:Int) > 12 by omega),cond_false,decide_eq_true h2,Bool.true_and,getB_zero s h1,Option.bind_some,p_iDigit,Option.bind_some,p_iKeyword,Option.bind_some]
      have key:=allK (L:=m_impl_IsName_L1 s m_impl_IsName_A1) (d:=s.data.toList) (p:=wordB) (K:=some true) (z:=some false)
        (fun g k hk=>by
          have hd:decide ((k:Int) < (s.size:Int))=true:=by rw [size_toL]; exact dlt hk
          simp -implicitDefEqProofs only [m_impl_IsName_L1,m_impl_IsName_B1,hd,cond_true,getB_nat s k hk,Option.bind_some,p_iWord]
          unfold wordB
          cases letterB (s.data.toList[k].toNat:Int) <;> cases digitB (s.data.toList[k].toNat:Int) <;> rfl)
        (fun g=>by
          have hd:decide ((s.data.toList.length:Int) < (s.size:Int))=false:=by rw [size_toL]; exact dge
          simp -implicitDefEqProofs only [m_impl_IsName_L1,m_impl_IsName_B1,hd,cond_false,m_impl_IsName_A1])
        (s.size+1) (by rw [size_toL]; omega)
      rw [key]
      have hb:letterB (b0 s)=false→digitB (b0 s)=false→s.data.toList.all wordB=false:=fun e1 e2=>by
        have hl:0 < s.data.toList.length:=by rw [← size_toL]; omega
        unfold b0 at e1 e2
        revert e1 e2 hl
        cases s.data.toList with
        |nil=>intro _ _ hl; cases hl
        |cons c cs=>intro e1 e2 _; rw [List.all_cons]; unfold wordB; simp only at e1 e2; rw [e1,e2]; rfl
      have hc:letterB (b0 s)=true→digitB (b0 s)=false:=fun e1=>by
        unfold letterB at e1; unfold digitB
        rw [Bool.eq_false_iff]; intro e2
        simp only [Bool.or_eq_true,Bool.and_eq_true,decide_eq_true_eq] at e1 e2
        omega
      cases h5:letterB (b0 s) with
      |true=>rw [hc h5]; cases keyD s <;> cases s.data.toList.all wordB <;> rfl
      |false=>
        cases h6:digitB (b0 s) with
        |true=>cases keyD s <;> cases s.data.toList.all wordB <;> rfl
        |false=>rw [hb h5 h6]; cases keyD s <;> rfl
    · rw [decide_eq_true (show (s.size:Int) > 12 by omega),cond_true,decide_eq_false h2]; rfl
  · rw [decide_eq_true (show (s.size:Int) < 1 by omega),cond_true,decide_eq_false h1]; rfl
theorem p_iUpper (s:ByteArray):m_impl_IsUpper s=some (upperD s):=by
  unfold m_impl_IsUpper upperD
  rw [p_iName,Option.bind_some]
  cases h:nameD s with
  |false=>rfl
  |true=>
    have h1:1≤s.size∧letterB (b0 s)=true:=by unfold nameD at h; simp only [Bool.and_eq_true,decide_eq_true_eq] at h; exact ⟨h.1,h.2.2.1⟩
    rw [cond_true,getB_zero s h1.1,Option.bind_some]
    have h2:=h1.2
    unfold letterB at h2
    simp only [Bool.or_eq_true,Bool.and_eq_true,decide_eq_true_eq] at h2
    unfold m_impl_isCapital
    by_cases h3:b0 s ≥ 65
    · rw [decide_eq_true h3]; rfl
    · omega
end
section
open Go.RowKit
abbrev emptyS:ByteArray:=ByteArray.mk #[]
abbrev intS:ByteArray:=ByteArray.mk #[73,110,116]
/-- The own form of a node of a type. -/
def tyForm (k:Int) (n:ByteArray) (len:Nat):Bool:=
  if k=1 then decide (n=emptyS) && decide (len=0) else if k=2 then upperD n && (!decide (n=intS) && decide (len=0)) else if k=3 then decide (n=emptyS) && decide (len=2) else if k=4 then decide (n=emptyS) && decide (len=1) else false
mutual
def tyOk:DType→Bool
  |⟨k,n,ks⟩=>tyForm k n ks.length && tyOkL ks
def tyOkL:List DType→Bool
  |[]=>true
  |x :: xs=>tyOk x && tyOkL xs
end
mutual
def tyDepth:DType→Nat
  |⟨_,_,ks⟩=>tyDepthL ks+1
def tyDepthL:List DType→Nat
  |[]=>0
  |x :: xs=>if tyDepth x > tyDepthL xs then tyDepth x else tyDepthL xs
end
mutual
def tySize:DType→Nat
  |⟨_,_,ks⟩=>1+tySizeL ks
def tySizeL:List DType→Nat
  |[]=>0
  |x :: xs=>tySize x+tySizeL xs
end
theorem tyOk_eq (x:DType):tyOk x=(tyForm x.kind x.name x.kids.length && tyOkL x.kids):=by
  obtain ⟨a,b,c⟩:=x
  rw [tyOk]
theorem tyOkL_eq :∀xs:List DType,tyOkL xs=xs.all tyOk
  |[]=>by rw [tyOkL]; rfl
  |x :: xs=>by rw [tyOkL,tyOkL_eq xs,List.all_cons]
theorem tyDepth_eq (x:DType):tyDepth x=tyDepthL x.kids+1:=by
  obtain ⟨a,b,c⟩:=x
  rw [tyDepth]
theorem tyDepthL_le :∀(xs:List DType) (m:Nat),tyDepthL xs≤m↔∀x∈xs,tyDepth x≤m
  |[],m=>by rw [tyDepthL]; simp
  |x :: xs,m=>by
    rw [tyDepthL]
    have ih:=tyDepthL_le xs m
    simp only [List.mem_cons,forall_eq_or_imp]
    rw [← ih]
    split <;> omega
theorem tySize_eq (x:DType):tySize x=1+tySizeL x.kids:=by
  obtain ⟨a,b,c⟩:=x
  rw [tySize]
theorem tySizeL_eq :∀xs:List DType,tySizeL xs=(xs.map tySize).sum
  |[]=>by rw [tySizeL]; rfl
  |x :: xs=>by rw [tySizeL,tySizeL_eq xs,List.map_cons,List.sum_cons]
mutual
theorem tySize_le :∀x:DType,tySize x≤1+szType x
  |⟨k,n,ks⟩=>by
    have:=tySizeL_le ks
    rw [tySize,szType]
    omega
theorem tySizeL_le :∀xs:List DType,tySizeL xs≤xs.length+szTypeL xs
  |[]=>by rw [tySizeL]; omega
  |x :: xs=>by
    have h1:=tySize_le x
    have h2:=tySizeL_le xs
    rw [tySizeL,szTypeL,List.length_cons]
    omega
end
mutual
theorem tyDepth_le :∀x:DType,tyDepth x≤tySize x
  |⟨k,n,ks⟩=>by
    have:=tyDepthL_le2 ks
    rw [tyDepth,tySize]
    omega
theorem tyDepthL_le2 :∀xs:List DType,tyDepthL xs≤tySizeL xs
  |[]=>by rw [tyDepthL]; omega
  |x :: xs=>by
    have h1:=tyDepth_le x
    have h2:=tyDepthL_le2 xs
    rw [tyDepthL,tySizeL]
    split <;> omega
end
/-- What l02Nodes answers. -/
def nodesD (x:DType) (d:Int):Int:=if tyOk x=true∧(tyDepth x:Int)≤d then (tySize x:Int) else -1
theorem sum_le_mem {xs:List DType} {k:Nat} (hk:k < xs.length):((xs.take k).map tySize).sum+tySize xs[k]≤(xs.map tySize).sum:=by
  have h:xs=xs.take k ++ xs[k] :: xs.drop (k+1):=by rw [← List.drop_eq_getElem_cons hk,List.take_append_drop]
  have e:=congrArg (fun l=>(l.map tySize).sum) h
  simp only [List.map_append,List.sum_append,List.map_cons,List.sum_cons] at e
  omega
theorem take_snoc {α:Type} {ks:List α} {k:Nat} (hk:k < ks.length):ks.take (k+1)=ks.take k ++ [ks[k]]:=by
  rw [List.take_add_one,List.getElem?_eq_getElem hk]; rfl
theorem iteC {α:Sort _} {p q:Prop} [Decidable p] [Decidable q] {a b:α} (h:p↔q):(if p then a else b)=if q then a else b:=by
  by_cases hp:p
  · rw [if_pos hp,if_pos (h.1 hp)]
  · rw [if_neg hp,if_neg (fun hq=>hp (h.2 hq))]
theorem nodesI {L:Nat→Int→Int→Option Int} {ks:List DType} {self:DType→Int→Option Int} {d:Int}
    (h :∀g acc i,L (g+1) acc i=bif decide (i < (ks.length:Int)) then (getI ks i).bind fun x=>(ck (d - 1)).bind fun s=>(self x s).bind fun y=>bif decide (y < 0) then some (-1) else (ck (acc+y)).bind fun s2=>L g s2 (i+1) else some acc)
    (hd:-9223372036854775808≤d - 1∧d - 1≤9223372036854775807) (hs :∀x∈ks,self x (d - 1)=some (nodesD x (d - 1))) (hb:(ks.map tySize).sum≤4294967296) :
    L (ks.length+1) 1 0=some (if ks.all tyOk=true∧((tyDepthL ks:Int)≤d - 1 ∨ ks=[]) then 1+((ks.map tySize).sum:Int) else -1):=by
  have key :∀(m k g:Nat),k+m=ks.length→m < g→L g (1+(((ks.take k).map tySize).sum:Int)) (k:Int)=some (if (∀x∈ks.drop k,tyOk x=true∧(tyDepth x:Int)≤d - 1) then 1+((ks.map tySize).sum:Int) else -1):=by
    intro m
    induction m with
    |zero=>
      intro k g hk hg
      obtain ⟨g,rfl⟩ :∃g',g=g'+1:=⟨g - 1,by omega⟩
      obtain rfl:k=ks.length:=by omega
      rw [h,dge,cond_false,List.take_length,List.drop_length,if_pos (by simp)]
    |succ m ih=>
      intro k g hk hg
      obtain ⟨g,rfl⟩ :∃g',g=g'+1:=⟨g - 1,by omega⟩
      have hl:k < ks.length:=by omega
      have hm:=List.getElem_mem hl
      have hle:=sum_le_mem hl
      rw [h,dlt hl,cond_true,getI_lt hl,Option.bind_some,ck_ok hd,Option.bind_some,hs _ hm,Option.bind_some,List.drop_eq_getElem_cons hl]
      unfold nodesD
      by_cases hx:tyOk ks[k] = true∧(tyDepth ks[k] : Int)≤d - 1
      · rw [if_pos hx,decide_eq_false (by omega),cond_false,ck_ok (by omega),Option.bind_some]
        have e1:(1+(((ks.take k).map tySize).sum:Int)+(tySize ks[k] : Int))=1+(((ks.take (k+1)).map tySize).sum:Int):=by
          rw [take_snoc hl,List.map_append,List.sum_append]
          simp
          omega
        rw [e1,show ((k:Int)+1)=((k+1:Nat):Int) by omega,ih (k+1) g (by omega) (by omega)]
        congr 1
        apply iteC
        simp only [List.mem_cons,forall_eq_or_imp]
        exact ⟨fun h=>⟨hx,h⟩,fun h=>h.2⟩
      · rw [if_neg hx,decide_eq_true (by omega),cond_true,if_neg (fun hall=>hx (hall _ List.mem_cons_self))]
  have:=key ks.length 0 (ks.length+1) (by omega) (by omega)
  simp only [List.take_zero,List.map_nil,List.sum_nil,List.drop_zero,Int.natCast_zero,Int.add_zero] at this
  refine this.trans ?_
  congr 1
  apply iteC
  rw [List.all_eq_true]
  constructor
  · intro hall
    refine ⟨fun x hx=>(hall x hx).1,?_⟩
    by_cases hn:ks=[]
    · exact .inr hn
    · refine .inl ?_
      obtain ⟨y,hy⟩:=List.exists_mem_of_ne_nil _ hn
      have h0:=(hall y hy).2
      have:=(tyDepthL_le ks (d - 1).toNat).2 (fun x hx=>by have:=(hall x hx).2; omega)
      omega
  · rintro ⟨h1,h2⟩ x hx
    refine ⟨h1 x hx,?_⟩
    rcases h2 with h2|h2
    · have:=(tyDepthL_le ks (tyDepthL ks)).1 (Nat.le_refl _) x hx
      omega
    · rw [h2] at hx; cases hx
theorem form_len {k:Int} {n:ByteArray} {len:Nat} (h:tyForm k n len=true):k=1∧n=emptyS∧len=0 ∨ k=2∧upperD n=true∧n ≠ intS∧len=0 ∨ k=3∧n=emptyS∧len=2 ∨ k=4∧n=emptyS∧len=1:=by
  unfold tyForm at h
  split at h
  · rename_i e; simp at h; exact .inl ⟨e,h⟩
  · split at h
    · rename_i e; simp at h; exact .inr (.inl ⟨e,h⟩)
    · split at h
      · rename_i e; simp at h; exact .inr (.inr (.inl ⟨e,h⟩))
      · split at h
        · rename_i e; simp at h; exact .inr (.inr (.inr ⟨e,h⟩))
        · cases h
theorem nodesD_of {x:DType} {d:Int} (hd:1≤d) (hf:tyForm x.kind x.name x.kids.length=true):nodesD x d=if x.kids.all tyOk=true∧((tyDepthL x.kids:Int)≤d - 1 ∨ x.kids=[]) then 1+((x.kids.map tySize).sum:Int) else -1:=by
  unfold nodesD
  rw [tySize_eq,tySizeL_eq,tyDepth_eq,tyOk_eq,tyOkL_eq,hf,Bool.true_and]
  have hc:((((tyDepthL x.kids+1:Nat):Int))≤d)↔((tyDepthL x.kids:Int)≤d - 1 ∨ x.kids=[]):=by
    constructor
    · intro h; exact .inl (by omega)
    · rintro (h|h)
      · omega
      · rw [h,tyDepthL]; omega
  simp only [hc]
  split <;> simp
theorem p_sNodes :∀(gas:Nat) (x:DType) (d:Int),SizeOf.sizeOf x≤gas→-4294967296≤d→d≤4294967296→tySize x≤4294967296→m_spec_l02Nodes gas x d=some (nodesD x d)
  |0,x,d,h,_,_,_=>by have:=x.pos; omega
  |gas+1,x,d,hg,h0,h1,hb=>by
    have ih:=p_sNodes gas
    have e:m_spec_l02Nodes (gas+1) x d=m_spec_l02Nodes_R (m_spec_l02Nodes gas) x d:=rfl
    have hkb:(x.kids.map tySize).sum≤4294967296:=by rw [tySize_eq,tySizeL_eq] at hb; omega
    have hs :∀y∈x.kids,m_spec_l02Nodes gas y (d - 1)=some (nodesD y (d - 1)):=fun y hy=>by
      by_cases hd1:d < -4294967295
      · -- the depth is out of reach
        exact (by
          have e2:gas=0 ∨ 0 < gas:=by omega
          rcases e2 with rfl|hp
          · have:=DType.kid_lt hy; have:=y.pos; omega
          · obtain ⟨g,rfl⟩ :∃g',gas=g'+1:=⟨gas - 1,by omega⟩
            have e3:m_spec_l02Nodes (g+1) y (d - 1)=m_spec_l02Nodes_R (m_spec_l02Nodes g) y (d - 1):=rfl
            rw [e3]
            unfold m_spec_l02Nodes_R nodesD
            rw [decide_eq_true (by omega),cond_true,if_neg (fun hh=>by omega)])
      · refine ih y (d - 1) (by have:=DType.kid_lt hy; omega) (by omega) (by omega) ?_
        have:=sum_mem (f:=tySize) hy
        omega
    rw [e]
    unfold m_spec_l02Nodes_R
    by_cases hd:d < 1
    · rw [decide_eq_true hd,cond_true]
      unfold nodesD
      rw [if_neg (fun hh=>by have:=tyDepth_eq x; omega)]
    · rw [decide_eq_false hd,cond_false]
      have hbad:tyForm x.kind x.name x.kids.length=false→nodesD x d = -1:=fun hf=>by
        unfold nodesD
        rw [tyOk_eq,hf,Bool.false_and,if_neg (by simp)]
      have hlen :∀m:Nat,((x.kids.length:Int) != (m:Int)) = !decide (x.kids.length=m):=fun m=>bne_nat
      have l0:((x.kids.length:Int) != 0) = !decide (x.kids.length=0):=hlen 0
      have l2:((x.kids.length:Int) != 2) = !decide (x.kids.length=2):=hlen 2
      have l1:((x.kids.length:Int) != 1) = !decide (x.kids.length=1):=hlen 1
      have K8:=nodesI (L:=m_spec_l02Nodes_L8 x d (m_spec_l02Nodes gas) m_spec_l02Nodes_A8) (fun g acc i=>rfl) (by omega) hs hkb
      have K5:=nodesI (L:=m_spec_l02Nodes_L5 x d (m_spec_l02Nodes gas) m_spec_l02Nodes_A5) (fun g acc i=>rfl) (by omega) hs hkb
      have K4:=nodesI (L:=m_spec_l02Nodes_L4 x d (m_spec_l02Nodes gas) m_spec_l02Nodes_A4) (fun g acc i=>rfl) (by omega) hs hkb
      have K2:=nodesI (L:=m_spec_l02Nodes_L2 x d (m_spec_l02Nodes gas) m_spec_l02Nodes_A2) (fun g acc i=>rfl) (by omega) hs hkb
      rw [l0,l2,l1,nameEq,nameEq,p_sUpper,Option.bind_some,K8,K5,K4,K2]
      clear K8 K5 K4 K2
      by_cases k1:x.kind=1
      · rw [show (x.kind==1)=true by simp [k1],show (x.kind != 2)=true by simp [k1],cond_true,cond_true]
        cases hf:tyForm x.kind x.name x.kids.length with
        |true=>
          rw [nodesD_of (by omega) hf]
          rw [k1] at hf
          simp only [tyForm,if_pos,Bool.and_eq_true] at hf
          rw [hf.1,hf.2]; rfl
        |false=>
          rw [hbad hf]
          rw [k1] at hf
          simp only [tyForm,if_pos] at hf
          revert hf
          cases decide (x.name=emptyS) <;> cases decide (x.kids.length=0) <;> intro hf <;> first|rfl|cases hf
      rw [show (x.kind==1)=false by simp [k1],cond_false]
      by_cases k2:x.kind=2
      · rw [show (x.kind==2)=true by simp [k2],show (x.kind != 2)=false by simp [k2],cond_true,cond_false]
        cases hf:tyForm x.kind x.name x.kids.length with
        |true=>
          rw [nodesD_of (by omega) hf]
          rw [k2] at hf
          simp only [tyForm,if_neg (show ¬ (2:Int)=1 by decide),if_pos,Bool.and_eq_true,Bool.not_eq_true'] at hf
          rw [hf.1,hf.2.1,hf.2.2]; rfl
        |false=>
          rw [hbad hf]
          rw [k2] at hf
          simp only [tyForm,if_neg (show ¬ (2:Int)=1 by decide),if_pos] at hf
          revert hf
          cases upperD x.name <;> cases decide (x.name=intS) <;> cases decide (x.kids.length=0) <;> intro hf <;> first|rfl|cases hf
      rw [show (x.kind==2)=false by simp [k2],show (x.kind != 2)=true by simp [k2],cond_false,cond_true]
      by_cases k3:x.kind=3
      · rw [show (x.kind==3)=true by simp [k3],cond_true]
        cases hf:tyForm x.kind x.name x.kids.length with
        |true=>
          rw [nodesD_of (by omega) hf]
          rw [k3] at hf
          simp only [tyForm,if_neg (show ¬ (3:Int)=1 by decide),if_neg (show ¬ (3:Int)=2 by decide),if_pos,Bool.and_eq_true] at hf
          rw [hf.1,hf.2]; rfl
        |false=>
          rw [hbad hf]
          rw [k3] at hf
          simp only [tyForm,if_neg (show ¬ (3:Int)=1 by decide),if_neg (show ¬ (3:Int)=2 by decide),if_pos] at hf
          revert hf
          cases decide (x.name=emptyS) <;> cases decide (x.kids.length=2) <;> intro hf <;> first|rfl|cases hf
      rw [show (x.kind==3)=false by simp [k3],cond_false]
      by_cases k4:x.kind=4
      · rw [show (x.kind==4)=true by simp [k4],cond_true]
        cases hf:tyForm x.kind x.name x.kids.length with
        |true=>
          rw [nodesD_of (by omega) hf]
          rw [k4] at hf
          simp only [tyForm,if_neg (show ¬ (4:Int)=1 by decide),if_neg (show ¬ (4:Int)=2 by decide),if_neg (show ¬ (4:Int)=3 by decide),if_pos,Bool.and_eq_true] at hf
          rw [hf.1,hf.2]; rfl
        |false=>
          rw [hbad hf]
          rw [k4] at hf
          simp only [tyForm,if_neg (show ¬ (4:Int)=1 by decide),if_neg (show ¬ (4:Int)=2 by decide),if_neg (show ¬ (4:Int)=3 by decide),if_pos] at hf
          revert hf
          cases decide (x.name=emptyS) <;> cases decide (x.kids.length=1) <;> intro hf <;> first|rfl|cases hf
      rw [show (x.kind==4)=false by simp [k4],cond_false,hbad (by simp [tyForm,k1,k2,k3,k4])]
def validTy (x:DType):Bool:=tyOk x && (decide (tyDepth x≤6) && decide (tySize x≤16))
theorem p_sValidType (x:DType) (hb:szType x≤1048576):m_spec_ValidType x=some (validTy x):=by
  unfold m_spec_ValidType
  have h:=tySize_le x
  rw [p_sNodes _ x 6 (Nat.le_refl _) (by decide) (by decide) (by omega),Option.bind_some]
  unfold nodesD validTy inR
  have h2:=tySize_eq x
  congr 1
  by_cases ho:tyOk x=true
  · rw [ho,Bool.true_and]
    by_cases hd:tyDepth x≤6
    · rw [if_pos ⟨rfl,by omega⟩,decide_eq_true hd,Bool.true_and,decide_eq_true (show (1:Int)≤(tySize x:Int) by omega),Bool.true_and]
      rw [decide_eq_decide]; omega
    · rw [if_neg (fun hh=>by omega),decide_eq_false hd]; rfl
  · rw [if_neg (fun hh=>ho hh.1)]
    rw [Bool.not_eq_true] at ho
    rw [ho]; rfl
theorem shapeI {L:Nat→Int→Int→Bool→Int→Option (Int × Int × Bool)} {ks:List DType} {self:DType→Option (Int × Int × Bool)} {K:Int→Int→Bool→Option (Int × Int × Bool)}
    (h :∀g a b c i,L (g+1) a b c i=bif decide (i < (ks.length:Int)) then (getI ks i).bind fun x=>(self x).bind fun y=>bif y.2.2 then (ck (y.1+1)).bind fun s=>(ck (b+y.2.1)).bind fun s2=>L g (if s > a then s else a) s2 c (i+1) else some (0,0,false) else K a b c)
    (hs :∀x∈ks,∃r,self x=some r∧r.2.2=tyOk x∧(tyOk x=true→r.1=tyDepth x∧r.2.1=tySize x)) (hb:(ks.map tySize).sum≤4294967296) :
    L (ks.length+1) 1 1 false 0=bif ks.all tyOk then K ((tyDepthL ks+1:Nat):Int) (1+((ks.map tySize).sum:Int)) false else some (0,0,false):=by
  have hsplit :∀k,k≤ks.length→True:=fun _ _=>trivial
  have key :∀(m k g:Nat),k+m=ks.length→m < g→∀dep:Nat,(∀M,dep≤M↔1≤M∧∀x∈ks.take k,tyDepth x+1≤M)→L g (dep:Int) (1+(((ks.take k).map tySize).sum:Int)) false (k:Int)=bif (ks.drop k).all tyOk then K ((tyDepthL ks+1:Nat):Int) (1+((ks.map tySize).sum:Int)) false else some (0,0,false):=by
    intro m
    induction m with
    |zero=>
      intro k g hk hg dep hdep
      obtain ⟨g,rfl⟩ :∃g',g=g'+1:=⟨g - 1,by omega⟩
      obtain rfl:k=ks.length:=by omega
      rw [h,dge,cond_false,List.take_length,List.drop_length]
      have e:dep=tyDepthL ks+1:=by
        rw [List.take_length] at hdep
        have h1:=(hdep dep).1 (Nat.le_refl _)
        have h2:=(hdep (tyDepthL ks+1)).2 ⟨by omega,fun x hx=>by have:=(tyDepthL_le ks (tyDepthL ks)).1 (Nat.le_refl _) x hx; omega⟩
        have h3:=(tyDepthL_le ks (dep - 1)).2 (fun x hx=>by have:=h1.2 x hx; omega)
        omega
      rw [e]; rfl
    |succ m ih=>
      intro k g hk hg dep hdep
      obtain ⟨g,rfl⟩ :∃g',g=g'+1:=⟨g - 1,by omega⟩
      have hl:k < ks.length:=by omega
      have hm:=List.getElem_mem hl
      have hle:=sum_le_mem hl
      obtain ⟨r,hr,hr1,hr2⟩:=hs _ hm
      rw [h,dlt hl,cond_true,getI_lt hl,Option.bind_some,hr,Option.bind_some,hr1,List.drop_eq_getElem_cons hl,List.all_cons]
      cases hx:tyOk ks[k] with
      |false=>rfl
      |true=>
        obtain ⟨e1,e2⟩:=hr2 hx
        have hdl:=tyDepth_le ks[k]
        rw [cond_true,Bool.true_and,e1,e2,ck_ok (by omega),Option.bind_some,ck_ok (by omega),Option.bind_some]
        have e3:(1+(((ks.take k).map tySize).sum:Int)+(tySize ks[k] : Int))=1+(((ks.take (k+1)).map tySize).sum:Int):=by
          rw [take_snoc hl,List.map_append,List.sum_append]
          simp
          omega
        have e4:(if (tyDepth ks[k] : Int)+1 > (dep:Int) then (tyDepth ks[k] : Int)+1 else (dep:Int))=((if tyDepth ks[k] + 1 > dep then tyDepth ks[k] + 1 else dep:Nat):Int):=by split <;> split <;> omega
        rw [e3,e4,show ((k:Int)+1)=((k+1:Nat):Int) by omega]
        refine ih (k+1) g (by omega) (by omega) _ (fun M=>?_)
        have hd:=hdep M
        rw [take_snoc hl]
        simp only [List.mem_append,List.mem_singleton]
        constructor
        · intro hM
          have hdM:dep≤M:=by split at hM <;> omega
          refine ⟨(hd.1 hdM).1,fun x hx=>?_⟩
          rcases hx with hx|hx
          · exact (hd.1 hdM).2 x hx
          · subst hx; split at hM <;> omega
        · rintro ⟨hM,hall⟩
          have h1:=hd.2 ⟨hM,fun x hx=>hall x (.inl hx)⟩
          have h2:=hall _ (.inr rfl)
          split <;> omega
  have:=key ks.length 0 (ks.length+1) (by omega) (by omega) 1 (fun M=>by simp)
  simpa using this
theorem p_iShape :∀(gas:Nat) (x:DType),SizeOf.sizeOf x≤gas→tySize x≤4294967296→∃r,m_impl_typeShape gas x=some r∧r.2.2=tyOk x∧(tyOk x=true→r.1=tyDepth x∧r.2.1=tySize x)
  |0,x,h,_=>by have:=x.pos; omega
  |gas+1,x,hg,hb=>by
    have ih:=p_iShape gas
    have e:m_impl_typeShape (gas+1) x=m_impl_typeShape_R (m_impl_typeShape gas) x:=rfl
    have hkb:(x.kids.map tySize).sum≤4294967296:=by rw [tySize_eq,tySizeL_eq] at hb; omega
    rw [e]
    unfold m_impl_typeShape_R
    rw [shapeI (L:=m_impl_typeShape_L1 x (m_impl_typeShape gas) (m_impl_typeShape_A1 x)) (fun g a b c i=>rfl) (fun y hy=>ih y (by have:=DType.kid_lt hy; omega) (by have:=sum_mem (f:=tySize) hy; omega)) hkb]
    rw [tyOk_eq,tyOkL_eq,tyDepth_eq,tySize_eq,tySizeL_eq]
    cases hk:x.kids.all tyOk with
    |false=>exact ⟨_,rfl,by rw [Bool.and_false],by rw [Bool.and_false]; intro h; cases h⟩
    |true=>
      rw [cond_true,Bool.and_true]
      unfold m_impl_typeShape_A1
      have l0:((x.kids.length:Int)==0)=decide (x.kids.length=0):=by rw [Bool.eq_iff_iff]; simp
      have l2:((x.kids.length:Int)==2)=decide (x.kids.length=2):=by rw [Bool.eq_iff_iff]; simp; omega
      have l1:((x.kids.length:Int)==1)=decide (x.kids.length=1):=by rw [Bool.eq_iff_iff]; simp; omega
      rw [nameEq,nameEq,p_iUpper,Option.bind_some,l0,l1,l2]
      have fin :∀b:Bool,∃r,some ((((tyDepthL x.kids+1:Nat):Int)),(1+((x.kids.map tySize).sum:Int)),b)=some r∧r.2.2=b∧(b=true→r.1=((tyDepthL x.kids+1:Nat):Int)∧r.2.1=((1+(x.kids.map tySize).sum:Nat):Int)):=fun b=>⟨_,rfl,rfl,fun _=>⟨rfl,by simp⟩⟩
      by_cases k1:x.kind=1
      · rw [show (x.kind==1)=true by simp [k1],cond_true]
        rw [show tyForm x.kind x.name x.kids.length=(decide (x.name=emptyS) && decide (x.kids.length=0)) by simp only [tyForm,k1,if_pos]]
        cases decide (x.name=emptyS) <;> cases decide (x.kids.length=0) <;> exact fin _
      rw [show (x.kind==1)=false by simp [k1],cond_false]
      by_cases k2:x.kind=2
      · rw [show (x.kind==2)=true by simp [k2],cond_true]
        rw [show tyForm x.kind x.name x.kids.length=(upperD x.name && (!decide (x.name=intS) && decide (x.kids.length=0))) by simp only [tyForm,k2,if_neg (show ¬ (2:Int)=1 by decide),if_pos]]
        cases upperD x.name <;> cases decide (x.name=intS) <;> cases decide (x.kids.length=0) <;> exact fin _
      rw [show (x.kind==2)=false by simp [k2],cond_false]
      by_cases k3:x.kind=3
      · rw [show (x.kind==3)=true by simp [k3],cond_true]
        rw [show tyForm x.kind x.name x.kids.length=(decide (x.name=emptyS) && decide (x.kids.length=2)) by simp only [tyForm,k3,if_neg (show ¬ (3:Int)=1 by decide),if_neg (show ¬ (3:Int)=2 by decide),if_pos]]
        cases decide (x.name=emptyS) <;> cases decide (x.kids.length=2) <;> exact fin _
      rw [show (x.kind==3)=false by simp [k3],cond_false]
      by_cases k4:x.kind=4
      · rw [show (x.kind==4)=true by simp [k4],cond_true]
        rw [show tyForm x.kind x.name x.kids.length=(decide (x.name=emptyS) && decide (x.kids.length=1)) by simp only [tyForm,k4,if_neg (show ¬ (4:Int)=1 by decide),if_neg (show ¬ (4:Int)=2 by decide),if_neg (show ¬ (4:Int)=3 by decide),if_pos]]
        cases decide (x.name=emptyS) <;> cases decide (x.kids.length=1) <;> exact fin _
      rw [show (x.kind==4)=false by simp [k4],cond_false,show tyForm x.kind x.name x.kids.length=false by simp [tyForm,k1,k2,k3,k4]]
      exact fin _
theorem p_iValidType (x:DType) (hb:szType x≤1048576):m_impl_ValidType x=some (validTy x):=by
  unfold m_impl_ValidType validTy
  have h:=tySize_le x
  obtain ⟨r,e,h1,h2⟩:=p_iShape _ x (Nat.le_refl _) (by omega)
  rw [e,Option.bind_some,h1]
  cases ho:tyOk x with
  |false=>rfl
  |true=>
    obtain ⟨e1,e2⟩:=h2 ho
    rw [e1,e2,cond_true,Bool.true_and]
    rw [show decide ((tyDepth x:Int)≤6)=decide (tyDepth x≤6) from decide_eq_decide.2 (by omega),show decide ((tySize x:Int)≤16)=decide (tySize x≤16) from decide_eq_decide.2 (by omega)]
    cases decide (tyDepth x≤6) <;> rfl
end
section
open Go.RowKit
def foldN {σ:Type} (step:Nat→σ→Option σ):Nat→Nat→σ→Option σ
  |0,_,s=>some s
  |m+1,k,s=>(step k s).bind (foldN step m (k+1))
/-- A loop that carries a state and may stop. -/
theorem foldR {σ τ β:Type} {n:Nat} {L:Nat→τ→Int→Option β} {R:Nat→τ→σ→Prop} {step:Nat→σ→Option σ} {K:τ→Option β} {z:Option β}
    (h :∀g k t s,k < n→R k t s→match step k s with|none=>L (g+1) t (k:Int)=z|some s'=>∃t',R (k+1) t' s'∧L (g+1) t (k:Int)=L g t' ((k:Int)+1))
    (he :∀g t,L (g+1) t (n:Int)=K t) (g:Nat) (t:τ) (s:σ) (hg:n < g) (hR:R 0 t s) :
    match foldN step n 0 s with|none=>L g t 0=z|some s'=>∃t',R n t' s'∧L g t 0=K t':=by
  have key :∀(m k g:Nat) (t:τ) (s:σ),k+m=n→m < g→R k t s→match foldN step m k s with|none=>L g t (k:Int)=z|some s'=>∃t',R n t' s'∧L g t (k:Int)=K t':=by
    intro m
    induction m with
    |zero=>
      intro k g t s hk hg hR
      obtain ⟨g,rfl⟩ :∃g',g=g'+1:=⟨g - 1,by omega⟩
      obtain rfl:k=n:=by omega
      exact ⟨t,hR,he g t⟩
    |succ m ih=>
      intro k g t s hk hg hR
      obtain ⟨g,rfl⟩ :∃g',g=g'+1:=⟨g - 1,by omega⟩
      have h1:=h g k t s (by omega) hR
      unfold foldN
      cases hs:step k s with
      |none=>rw [hs] at h1; exact h1
      |some s'=>
        rw [hs] at h1
        obtain ⟨t',hR',e⟩:=h1
        have h2:=ih (k+1) g t' s' (by omega) (by omega) hR'
        rw [Option.bind_some]
        cases hf:foldN step m (k+1) s' with
        |none=>rw [hf] at h2; exact e.trans h2
        |some s2=>rw [hf] at h2; obtain ⟨t2,hR2,e2⟩:=h2; exact ⟨t2,hR2,e.trans e2⟩
  exact key n 0 g t s (by omega) hg hR
theorem foldN_step {σ:Type} {step:Nat→σ→Option σ} :∀{m k:Nat} {s s':σ},foldN step m k s=some s'→∀j,k≤j→j < k+m→∃t t',step j t=some t'
  |0,k,s,s',h,j,h1,h2=>by omega
  |m+1,k,s,s',h,j,h1,h2=>by
    unfold foldN at h
    cases hs:step k s with
    |none=>rw [hs] at h; cases h
    |some s2=>
      rw [hs,Option.bind_some] at h
      by_cases hj:j=k
      · exact ⟨s,s2,hj ▸ hs⟩
      · exact foldN_step h j (by omega) (by omega)
theorem DType.kid_lt2 {x y:DType} (h:y∈x.kids):SizeOf.sizeOf y+2≤SizeOf.sizeOf x:=by
  obtain ⟨k,n,ks⟩:=x
  have:=List.sizeOf_lt_of_mem h
  simp only [DType.mk.sizeOf_spec]
  simp only at this
  omega
def hasD (ds:List DData) (n:ByteArray):Bool:=ds.any fun x=>decide (x.name=n)
theorem p_sNamed (ds:List DData) (n:ByteArray):m_spec_l02Named ds n=some (idxD ds fun x=>decide (x.name=n)):=by
  unfold m_spec_l02Named
  exact idxK (L:=m_spec_l02Named_L1 ds n m_spec_l02Named_A1) (d:=ds)
    (fun g k hk=>by simp -implicitDefEqProofs only [m_spec_l02Named_L1,m_spec_l02Named_B1,dlt hk,cond_true,getI_lt hk,Option.bind_some,nameEq])
    (fun g=>by simp -implicitDefEqProofs only [m_spec_l02Named_L1,m_spec_l02Named_B1,dge,cond_false,m_spec_l02Named_A1]) _ (Nat.lt_succ_self _)
theorem p_iFind (ds:List DData) (n:ByteArray):m_impl_findData ds n=some (idxD ds fun x=>decide (x.name=n)):=by
  unfold m_impl_findData m_slices_IndexFunc_impl_Data_impl_Data
  rw [idxK (L:=m_slices_IndexFunc_impl_Data_impl_Data_L1 ds (fun x0=>m_impl_findData_1 x0 n) m_slices_IndexFunc_impl_Data_impl_Data_A1) (d:=ds) (p:=fun x=>decide (x.name=n))
    (fun g k hk=>by simp -implicitDefEqProofs only [m_slices_IndexFunc_impl_Data_impl_Data_L1,m_slices_IndexFunc_impl_Data_impl_Data_B1,dlt hk,cond_true,getI_lt hk,Option.bind_some,m_impl_findData_1,nameEq])
    (fun g=>by simp -implicitDefEqProofs only [m_slices_IndexFunc_impl_Data_impl_Data_L1,m_slices_IndexFunc_impl_Data_impl_Data_B1,dge,cond_false,m_slices_IndexFunc_impl_Data_impl_Data_A1]) _ (Nat.lt_succ_self _)]
  rfl
theorem p_contT {d:List DType} {f:DType→Option Bool} {p:DType→Bool} (h :∀x∈d,f x=some (p x)):m_slices_ContainsFunc_impl_Type_impl_Type d f=some (d.any p):=by
  unfold m_slices_ContainsFunc_impl_Type_impl_Type m_slices_IndexFunc_impl_Type_impl_Type
  rw [idxK (L:=m_slices_IndexFunc_impl_Type_impl_Type_L1 d f m_slices_IndexFunc_impl_Type_impl_Type_A1) (d:=d) (p:=p)
    (fun g k hk=>by simp -implicitDefEqProofs only [m_slices_IndexFunc_impl_Type_impl_Type_L1,m_slices_IndexFunc_impl_Type_impl_Type_B1,dlt hk,cond_true,getI_lt hk,Option.bind_some,h _ (List.getElem_mem hk)])
    (fun g=>by simp -implicitDefEqProofs only [m_slices_IndexFunc_impl_Type_impl_Type_L1,m_slices_IndexFunc_impl_Type_impl_Type_B1,dge,cond_false,m_slices_IndexFunc_impl_Type_impl_Type_A1]) _ (Nat.lt_succ_self _)]
  rw [Option.bind_some,idxD_ge]
theorem not_any_not {α:Type} (d:List α) (p:α→Bool):(!(d.any fun x=>!p x))=d.all p:=by
  rw [List.not_any_eq_all_not]
  simp
mutual
def knownD (ds:List DData):DType→Bool
  |⟨k,n,ks⟩=>(if k=2 then hasD ds n else true) && knownL ds ks
def knownL (ds:List DData):List DType→Bool
  |[]=>true
  |x :: xs=>knownD ds x && knownL ds xs
end
theorem knownL_eq (ds:List DData) :∀xs:List DType,knownL ds xs=xs.all (knownD ds)
  |[]=>by rw [knownL]; rfl
  |x :: xs=>by rw [knownL,knownL_eq ds xs,List.all_cons]
theorem knownD_eq (ds:List DData) (x:DType):knownD ds x=((if x.kind=2 then hasD ds x.name else true) && x.kids.all (knownD ds)):=by
  obtain ⟨a,b,c⟩:=x
  rw [knownD,knownL_eq]
theorem p_sKnown (ds:List DData) :∀(gas:Nat) (x:DType),SizeOf.sizeOf x≤gas→tyOk x=true→m_spec_l02Known gas ds x=some (knownD ds x)
  |0,x,h,_=>by have:=x.pos; omega
  |gas+1,x,hg,ho=>by
    have ih:=p_sKnown ds gas
    have e:m_spec_l02Known (gas+1) ds x=m_spec_l02Known_R (m_spec_l02Known gas) ds x:=rfl
    rw [e,knownD_eq]
    unfold m_spec_l02Known_R
    rw [tyOk_eq,tyOkL_eq,Bool.and_eq_true] at ho
    by_cases k2:x.kind=2
    · rw [show (x.kind==2)=true by simp [k2],cond_true,p_sNamed,Option.bind_some,idxD_ge,if_pos k2]
      have hk:x.kids=[]:=by
        rcases form_len ho.1 with h|h|h|h
        · omega
        · exact List.length_eq_zero_iff.1 h.2.2.2
        · omega
        · omega
      rw [hk,List.all_nil,Bool.and_true]; rfl
    · rw [show (x.kind==2)=false by simp [k2],cond_false,if_neg k2,Bool.true_and]
      have hall:=List.all_eq_true.1 ho.2
      have key:=allK (L:=m_spec_l02Known_L1 ds x (m_spec_l02Known gas) m_spec_l02Known_A1) (d:=x.kids) (p:=knownD ds) (K:=some true) (z:=some false)
        (fun g k hk=>by
          have hm:=List.getElem_mem hk
          simp -implicitDefEqProofs only [m_spec_l02Known_L1,m_spec_l02Known_B1,dlt hk,cond_true,getI_lt hk,Option.bind_some,ih _ (by have:=DType.kid_lt hm; omega) (hall _ hm)])
        (fun g=>by simp -implicitDefEqProofs only [m_spec_l02Known_L1,m_spec_l02Known_B1,dge,cond_false,m_spec_l02Known_A1]) _ (Nat.lt_succ_self _)
      rw [key]
      cases x.kids.all (knownD ds) <;> rfl
theorem p_iDecl (ds:List DData) :∀(gas:Nat) (x:DType),SizeOf.sizeOf x≤gas→m_impl_declared gas ds x=some (knownD ds x):=by
  intro gas
  induction gas using Nat.strongRecOn with
  |ind gas ih=>
    intro x hg
    have hp:=x.pos
    obtain ⟨gas,rfl⟩ :∃g',gas=g'+1:=⟨gas - 1,by omega⟩
    have e:m_impl_declared (gas+1) ds x=m_impl_declared_R (m_impl_declared gas) (m_impl_declared_1 gas) ds x:=rfl
    have hk :∀y∈x.kids,m_impl_declared_1 gas y ds=some (!knownD ds y):=fun y hy=>by
      have h1:=DType.kid_lt2 hy
      have h2:=y.pos
      obtain ⟨g,rfl⟩ :∃g',gas=g'+1:=⟨gas - 1,by omega⟩
      have e2:m_impl_declared_1 (g+1) y ds=m_impl_declared_1_R (m_impl_declared g) (m_impl_declared_1 g) y ds:=rfl
      rw [e2]
      unfold m_impl_declared_1_R
      rw [ih g (by omega) y (by omega),Option.bind_some]
    rw [e,knownD_eq]
    unfold m_impl_declared_R
    rw [p_contT (p:=fun y=>!knownD ds y) hk,Option.bind_some,not_any_not]
    by_cases k2:x.kind=2
    · rw [show (x.kind==2)=true by simp [k2],cond_true,p_iFind,Option.bind_some,idxD_lt,if_pos k2]
      unfold hasD
      cases ds.any fun y=>decide (y.name=x.name) <;> rfl
    · rw [show (x.kind==2)=false by simp [k2],cond_false,if_neg k2,Bool.true_and]
def conOk (ds:List DData) (c:DConstructor):Bool:=upperD c.name && (decide (c.fields.length≤3) && c.fields.all fun t=>validTy t && knownD ds t)
theorem szS_mem {xs:List DType} {t:DType} (hs:szTypeS xs≤1048576) (ht:t∈xs):szType t≤1048576:=by
  rw [szTypeS_eq] at hs
  have:=sum_mem (f:=szType) ht
  omega
theorem validTy_ok {t:DType} (h:validTy t=true):tyOk t=true:=by unfold validTy at h; rw [Bool.and_eq_true] at h; exact h.1
theorem p_sCons (ds:List DData) (c:DConstructor) (hs:szTypeS c.fields≤1048576):m_spec_l02Cons ds c=some (conOk ds c):=by
  unfold m_spec_l02Cons conOk
  rw [p_sUpper,Option.bind_some]
  have key:=allK (L:=m_spec_l02Cons_L1 ds c m_spec_l02Cons_A1) (d:=c.fields) (p:=fun t=>validTy t && knownD ds t) (K:=some true) (z:=some false)
    (fun g k hk=>by
      have hm:=List.getElem_mem hk
      simp -implicitDefEqProofs only [m_spec_l02Cons_L1,m_spec_l02Cons_B1,dlt hk,cond_true,getI_lt hk,Option.bind_some,p_sValidType _ (szS_mem hs hm)]
      cases hv:validTy c.fields[k] with
      |false=>rfl
      |true=>rw [cond_true,p_sKnown ds _ _ (Nat.le_refl _) (validTy_ok hv),Option.bind_some]; rfl)
    (fun g=>by simp -implicitDefEqProofs only [m_spec_l02Cons_L1,m_spec_l02Cons_B1,dge,cond_false,m_spec_l02Cons_A1]) _ (Nat.lt_succ_self _)
  rw [key]
  rw [show decide ((c.fields.length:Int) > 3) = !decide (c.fields.length≤3) by rw [← decide_not]; exact decide_eq_decide.2 (by omega)]
  cases upperD c.name <;> cases decide (c.fields.length≤3) <;> cases (c.fields.all fun t=>validTy t && knownD ds t) <;> rfl
theorem p_iCons (ds:List DData) (c:DConstructor) (hs:szTypeS c.fields≤1048576):m_impl_validConstructor ds c=some (conOk ds c):=by
  unfold m_impl_validConstructor conOk
  rw [p_iUpper,Option.bind_some]
  rw [p_contT (p:=fun t=>!(validTy t && knownD ds t)) (fun t ht=>by
    show m_impl_validConstructor_1 t ds=_
    unfold m_impl_validConstructor_1
    rw [p_iValidType _ (szS_mem hs ht),Option.bind_some,p_iDecl ds _ _ (Nat.le_refl _),Option.bind_some]
    cases validTy t <;> rfl),Option.bind_some,not_any_not]
  rw [show decide ((c.fields.length:Int) > 3) = !decide (c.fields.length≤3) by rw [← decide_not]; exact decide_eq_decide.2 (by omega)]
  cases upperD c.name <;> cases decide (c.fields.length≤3) <;> cases (c.fields.all fun t=>validTy t && knownD ds t) <;> rfl
def stepC (ds:List DData) (cs:List DConstructor) (k:Nat) (names:List ByteArray):Option (List ByteArray):=
  match cs[k]? with
  |none=>none
  |some c=>bif conOk ds c && !(names.any fun x=>decide (x=c.name)) then some (names ++ [c.name]) else none
def okD (ds:List DData) (i:Nat) (d:DData):Bool:=upperD d.name && (!decide (d.name=intS) && (!((ds.take i).any fun x=>decide (x.name=d.name)) && (decide (1≤d.cons.length) && decide (d.cons.length≤4))))
def stepD (ds:List DData) (i:Nat) (names:List ByteArray):Option (List ByteArray):=
  match ds[i]? with
  |none=>none
  |some d=>bif okD ds i d then foldN (stepC ds d.cons) d.cons.length 0 names else none
theorem stepC_at {ds:List DData} {cs:List DConstructor} {k:Nat} (hk:k < cs.length) (names:List ByteArray):stepC ds cs k names=bif conOk ds cs[k] && !(names.any fun x=>decide (x=cs[k].name)) then some (names ++ [cs[k].name]) else none:=by
  unfold stepC; rw [List.getElem?_eq_getElem hk]
theorem stepD_at {ds:List DData} {i:Nat} (hi:i < ds.length) (names:List ByteArray):stepD ds i names=bif okD ds i ds[i] then foldN (stepC ds ds[i].cons) ds[i].cons.length 0 names else none:=by
  unfold stepD; rw [List.getElem?_eq_getElem hi]
def validDs (ds:List DData):Bool:=decide (ds.length≤4) && (foldN (stepD ds) ds.length 0 []).isSome
theorem validDs_name {ds:List DData} (h:validDs ds=true) {n:ByteArray} (hn:hasD ds n=true):upperD n=true∧n ≠ intS:=by
  unfold validDs at h
  rw [Bool.and_eq_true,Option.isSome_iff_exists] at h
  obtain ⟨_,s,hf⟩:=h
  unfold hasD at hn
  rw [List.any_eq_true] at hn
  obtain ⟨x,hx,he⟩:=hn
  have he:=of_decide_eq_true he
  obtain ⟨j,hj,rfl⟩:=List.getElem_of_mem hx
  obtain ⟨t,t',h1⟩:=foldN_step hf j (Nat.zero_le _) (by omega)
  unfold stepD at h1
  rw [List.getElem?_eq_getElem hj] at h1
  simp only at h1
  cases ho:okD ds j ds[j] with
  |false=>rw [ho] at h1; cases h1
  |true=>
    unfold okD at ho
    simp only [Bool.and_eq_true,Bool.not_eq_true',decide_eq_false_iff_not] at ho
    rw [he] at ho
    exact ⟨ho.1,ho.2.1⟩
theorem szCon_fields {cs:List DConstructor} (hs:szConstructorS cs≤1048576) {k:Nat} (hk:k < cs.length):szTypeS cs[k].fields≤1048576:=by
  have:=sum_mem (f:=szConstructor) (List.getElem_mem hk)
  have e:szConstructor cs[k] = cs[k].name.size+szTypeS cs[k].fields:=rfl
  unfold szConstructorS at hs
  omega
theorem szDat_cons {ds:List DData} (hs:szDataS ds≤1048576) {k:Nat} (hk:k < ds.length):szConstructorS ds[k].cons≤1048576:=by
  have:=sum_mem (f:=szData) (List.getElem_mem hk)
  have e:szData ds[k] = ds[k].name.size+szConstructorS ds[k].cons:=rfl
  unfold szDataS at hs
  omega
theorem szCon_len {cs:List DConstructor} (hs:szConstructorS cs≤1048576):cs.length≤1048576:=by unfold szConstructorS at hs; omega
theorem sNames {g:Nat} {x:DData} {names:List ByteArray} {k:Nat} {c:DConstructor} (hc:x.cons[k]? = some c) (K:Option Bool) (hg:names.length < g) :
    m_spec_l02Ok_L3 x names (k:Int) K g 0=bif names.all (fun y=>!decide (y=c.name)) then K else some false:=
  allK (L:=m_spec_l02Ok_L3 x names (k:Int) K) (d:=names) (p:=fun y=>!decide (y=c.name)) (K:=K) (z:=some false)
    (fun g j hj=>by
      simp -implicitDefEqProofs only [m_spec_l02Ok_L3,m_spec_l02Ok_B3,dlt hj,cond_true,getI_lt hj,getI_nat hc,Option.bind_some,nameEq]
      cases decide (names[j] = c.name) <;> rfl)
    (fun g=>by simp -implicitDefEqProofs only [m_spec_l02Ok_L3,m_spec_l02Ok_B3,dge,cond_false]) g hg
theorem p_sOk (ds:List DData) (hs:szDataS ds≤1048576):m_spec_l02Ok ds=some (validDs ds):=by
  unfold m_spec_l02Ok validDs
  rw [show decide ((ds.length:Int) > 4) = !decide (ds.length≤4) by rw [← decide_not]; exact decide_eq_decide.2 (by omega)]
  rcases Nat.lt_or_ge 4 ds.length with hl4|hl4
  · rw [decide_eq_false (show ¬ ds.length≤4 by omega)]; rfl
  rw [decide_eq_true hl4,Bool.true_and]
  have key:=foldR (n:=ds.length) (L:=m_spec_l02Ok_L1 ds m_spec_l02Ok_A1) (R:=fun i t s=>t=s∧s.length≤4 * i) (step:=stepD ds) (K:=fun _=>some true) (z:=some false)
    (fun g i t s hi hR=>by
      obtain ⟨rfl,hsl⟩:=hR
      have e:m_spec_l02Ok_L1 ds m_spec_l02Ok_A1 (g+1) t (i:Int)=m_spec_l02Ok_B1 ds (m_spec_l02Ok_L1 ds m_spec_l02Ok_A1 g) m_spec_l02Ok_A1 t (i:Int):=rfl
      have hc:=szDat_cons hs hi
      have hlc:=szCon_len hc
      rw [e]
      unfold m_spec_l02Ok_B1
      rw [stepD_at hi,dlt hi,cond_true,getI_lt hi,Option.bind_some,p_sUpper,Option.bind_some,nameEq,p_sNamed,Option.bind_some,idxD_take ds _ i hi (by simp)]
      rw [show decide ((ds[i].cons.length:Int) < 1) = !decide (1≤ds[i].cons.length) by rw [← decide_not]; exact decide_eq_decide.2 (by omega)]
      rw [show decide ((ds[i].cons.length:Int) > 4) = !decide (ds[i].cons.length≤4) by rw [← decide_not]; exact decide_eq_decide.2 (by omega)]
      unfold okD
      cases upperD ds[i].name with
      |false=>rfl
      |true=>
      cases hint:decide (ds[i].name=intS) with
      |true=>rfl
      |false=>
      cases (ds.take i).any fun x=>decide (x.name=ds[i].name) with
      |true=>rfl
      |false=>
      cases decide (1≤ds[i].cons.length) with
      |false=>rfl
      |true=>
      cases h4:decide (ds[i].cons.length≤4) with
      |false=>rfl
      |true=>
      have h4:=of_decide_eq_true h4
      have k2:=foldR (n:=ds[i].cons.length) (L:=m_spec_l02Ok_L2 ds ds[i] (m_spec_l02Ok_A2 (m_spec_l02Ok_L1 ds m_spec_l02Ok_A1 g) (i:Int))) (R:=fun k t s=>t=s∧s.length≤4 * i+k) (step:=stepC ds ds[i].cons) (K:=m_spec_l02Ok_A2 (m_spec_l02Ok_L1 ds m_spec_l02Ok_A1 g) (i:Int)) (z:=some false)
        (fun g2 k t s hk hR=>by
          obtain ⟨rfl,hsl2⟩:=hR
          have e2:m_spec_l02Ok_L2 ds ds[i] (m_spec_l02Ok_A2 (m_spec_l02Ok_L1 ds m_spec_l02Ok_A1 g) (i:Int)) (g2+1) t (k:Int)=m_spec_l02Ok_B2 ds ds[i] (m_spec_l02Ok_L2 ds ds[i] (m_spec_l02Ok_A2 (m_spec_l02Ok_L1 ds m_spec_l02Ok_A1 g) (i:Int)) g2) (m_spec_l02Ok_A2 (m_spec_l02Ok_L1 ds m_spec_l02Ok_A1 g) (i:Int)) t (k:Int):=rfl
          rw [e2]
          unfold m_spec_l02Ok_B2
          have hck:=List.getElem?_eq_getElem hk
          rw [stepC_at hk,dlt hk,cond_true,getI_lt hk,Option.bind_some,p_sCons ds _ (szCon_fields hc hk),Option.bind_some,sNames hck _ (Nat.lt_succ_self _),List.not_any_eq_all_not]
          cases conOk ds ds[i].cons[k] with
          |false=>rfl
          |true=>
            cases t.all fun y=>!decide (y=ds[i].cons[k].name) with
            |false=>rfl
            |true=>
              refine ⟨t ++ [ds[i].cons[k].name],⟨rfl,by simp; omega⟩,?_⟩
              show m_spec_l02Ok_A3 _ _ _ _=_
              unfold m_spec_l02Ok_A3
              rw [getI_lt hk,Option.bind_some,mustP_ok (by rw [List.length_singleton]; omega),Option.bind_some,ck_ok (by omega),Option.bind_some])
        (fun g2 t=>by
          have e2:m_spec_l02Ok_L2 ds ds[i] (m_spec_l02Ok_A2 (m_spec_l02Ok_L1 ds m_spec_l02Ok_A1 g) (i:Int)) (g2+1) t (ds[i].cons.length:Int)=m_spec_l02Ok_B2 ds ds[i] (m_spec_l02Ok_L2 ds ds[i] (m_spec_l02Ok_A2 (m_spec_l02Ok_L1 ds m_spec_l02Ok_A1 g) (i:Int)) g2) (m_spec_l02Ok_A2 (m_spec_l02Ok_L1 ds m_spec_l02Ok_A1 g) (i:Int)) t (ds[i].cons.length:Int):=rfl
          rw [e2]
          unfold m_spec_l02Ok_B2
          rw [dge,cond_false]) (ds[i].cons.length+1) t t (Nat.lt_succ_self _) ⟨rfl,by omega⟩
      simp -implicitDefEqProofs only [cond_true,cond_false,Bool.not_true,Bool.not_false,Bool.and_self]
      cases hf:foldN (stepC ds ds[i].cons) ds[i].cons.length 0 t with
      |none=>rw [hf] at k2; exact k2
      |some s'=>
        rw [hf] at k2
        obtain ⟨t',⟨rfl,hl'⟩,e3⟩:=k2
        refine ⟨t',⟨rfl,by omega⟩,e3.trans ?_⟩
        unfold m_spec_l02Ok_A2
        rw [ck_ok (by omega),Option.bind_some])
    (fun g t=>by
      have e:m_spec_l02Ok_L1 ds m_spec_l02Ok_A1 (g+1) t (ds.length:Int)=m_spec_l02Ok_B1 ds (m_spec_l02Ok_L1 ds m_spec_l02Ok_A1 g) m_spec_l02Ok_A1 t (ds.length:Int):=rfl
      rw [e]
      unfold m_spec_l02Ok_B1
      rw [dge,cond_false]; rfl) (ds.length+1) [] [] (Nat.lt_succ_self _) ⟨rfl,by simp⟩
  rw [Bool.not_true,cond_false]
  cases hf:foldN (stepD ds) ds.length 0 [] with
  |none=>rw [hf] at key; exact key
  |some s'=>rw [hf] at key; obtain ⟨_,_,e⟩:=key; exact e
theorem look_put {z:MapM ByteArray Bool} {names:List ByteArray} (h :∀n,z.look n false=names.any fun x=>decide (x=n)) (c:ByteArray) :∀n,(z.put c true).look n false=(names ++ [c]).any fun x=>decide (x=n):=by
  intro n
  rw [List.any_append,← h n]
  unfold MapM.put MapM.look
  simp only [List.any_cons,List.any_nil,Bool.or_false]
  by_cases e:n=c
  · rw [if_pos e,decide_eq_true e.symm]; simp
  · rw [if_neg e,decide_eq_false (fun e2=>e e2.symm)]; simp
theorem p_iOk (ds:List DData) (hs:szDataS ds≤1048576):m_impl_ValidDatas ds=some (validDs ds):=by
  unfold m_impl_ValidDatas validDs
  rw [show decide ((ds.length:Int) > 4) = !decide (ds.length≤4) by rw [← decide_not]; exact decide_eq_decide.2 (by omega)]
  rcases Nat.lt_or_ge 4 ds.length with hl4|hl4
  · rw [decide_eq_false (show ¬ ds.length≤4 by omega)]; rfl
  rw [decide_eq_true hl4,Bool.true_and]
  have key:=foldR (n:=ds.length) (L:=fun g t i=>m_impl_ValidDatas_L1 ds m_impl_ValidDatas_A1 g i t) (R:=fun i t s=>(∀n,t.look n false=s.any fun x=>decide (x=n))∧t.n=s.length∧s.length≤4 * i) (step:=stepD ds) (K:=fun _=>some true) (z:=some false)
    (fun g i t s hi hR=>by
      obtain ⟨hlook,hn,hsl⟩:=hR
      have e:m_impl_ValidDatas_L1 ds m_impl_ValidDatas_A1 (g+1) (i:Int) t=m_impl_ValidDatas_B1 ds (m_impl_ValidDatas_L1 ds m_impl_ValidDatas_A1 g) m_impl_ValidDatas_A1 (i:Int) t:=rfl
      have hc:=szDat_cons hs hi
      have hlc:=szCon_len hc
      rw [e]
      unfold m_impl_ValidDatas_B1
      rw [stepD_at hi,dlt hi,cond_true,getI_lt hi,Option.bind_some,p_iUpper,Option.bind_some,nameEq,mustP_ok ⟨by omega,by simp; omega⟩,Option.bind_some,p_iFind,Option.bind_some,idxD_ge,Int.toNat_natCast]
      rw [show decide ((ds[i].cons.length:Int) < 1) = !decide (1≤ds[i].cons.length) by rw [← decide_not]; exact decide_eq_decide.2 (by omega)]
      rw [show decide ((ds[i].cons.length:Int) > 4) = !decide (ds[i].cons.length≤4) by rw [← decide_not]; exact decide_eq_decide.2 (by omega)]
      unfold okD
      cases upperD ds[i].name with
      |false=>rfl
      |true=>
      cases hint:decide (ds[i].name=intS) with
      |true=>rfl
      |false=>
      cases (ds.take i).any fun x=>decide (x.name=ds[i].name) with
      |true=>rfl
      |false=>
      cases decide (1≤ds[i].cons.length) with
      |false=>rfl
      |true=>
      cases h4:decide (ds[i].cons.length≤4) with
      |false=>rfl
      |true=>
      have h4:=of_decide_eq_true h4
      have k2:=foldR (n:=ds[i].cons.length) (L:=fun g2 t k=>m_impl_ValidDatas_L2 ds ds[i] (m_impl_ValidDatas_A2 (m_impl_ValidDatas_L1 ds m_impl_ValidDatas_A1 g) (i:Int)) g2 k t) (R:=fun k t s=>(∀n,t.look n false=s.any fun x=>decide (x=n))∧t.n=s.length∧s.length≤4 * i+k) (step:=stepC ds ds[i].cons) (K:=m_impl_ValidDatas_A2 (m_impl_ValidDatas_L1 ds m_impl_ValidDatas_A1 g) (i:Int)) (z:=some false)
        (fun g2 k t s hk hR=>by
          obtain ⟨hlook,hn,hsl2⟩:=hR
          have e2:m_impl_ValidDatas_L2 ds ds[i] (m_impl_ValidDatas_A2 (m_impl_ValidDatas_L1 ds m_impl_ValidDatas_A1 g) (i:Int)) (g2+1) (k:Int) t=m_impl_ValidDatas_B2 ds ds[i] (m_impl_ValidDatas_L2 ds ds[i] (m_impl_ValidDatas_A2 (m_impl_ValidDatas_L1 ds m_impl_ValidDatas_A1 g) (i:Int)) g2) (m_impl_ValidDatas_A2 (m_impl_ValidDatas_L1 ds m_impl_ValidDatas_A1 g) (i:Int)) (k:Int) t:=rfl
          rw [e2]
          unfold m_impl_ValidDatas_B2
          rw [stepC_at hk,dlt hk,cond_true,getI_lt hk,Option.bind_some,p_iCons ds _ (szCon_fields hc hk),Option.bind_some]
          cases ho:conOk ds ds[i].cons[k] with
          |false=>rfl
          |true=>
            have hup:ds[i].cons[k].name.size≤maxLen:=by
              unfold conOk at ho
              rw [Bool.and_eq_true] at ho
              have:=upperD_size ho.1
              unfold maxLen; omega
            rw [cond_true,mustP_ok hup,Option.bind_some,hlook]
            cases hany:s.any fun x=>decide (x=ds[i].cons[k].name) with
            |true=>rfl
            |false=>
              rw [cond_false,Option.bind_some,mustP_ok (by omega),Option.bind_some]
              exact ⟨t.put ds[i].cons[k].name true,⟨look_put hlook _,by show t.n+1=_; simp; omega,by simp; omega⟩,rfl⟩)
        (fun g2 t=>by
          have e2:m_impl_ValidDatas_L2 ds ds[i] (m_impl_ValidDatas_A2 (m_impl_ValidDatas_L1 ds m_impl_ValidDatas_A1 g) (i:Int)) (g2+1) (ds[i].cons.length:Int) t=m_impl_ValidDatas_B2 ds ds[i] (m_impl_ValidDatas_L2 ds ds[i] (m_impl_ValidDatas_A2 (m_impl_ValidDatas_L1 ds m_impl_ValidDatas_A1 g) (i:Int)) g2) (m_impl_ValidDatas_A2 (m_impl_ValidDatas_L1 ds m_impl_ValidDatas_A1 g) (i:Int)) (ds[i].cons.length:Int) t:=rfl
          rw [e2]
          unfold m_impl_ValidDatas_B2
          rw [dge,cond_false]) (ds[i].cons.length+1) t s (Nat.lt_succ_self _) ⟨hlook,hn,by omega⟩
      simp -implicitDefEqProofs only [cond_true,cond_false,Bool.not_true,Bool.not_false,Bool.and_self]
      cases hf:foldN (stepC ds ds[i].cons) ds[i].cons.length 0 s with
      |none=>rw [hf] at k2; exact k2
      |some s'=>
        rw [hf] at k2
        obtain ⟨t',⟨hlook',hn',hl'⟩,e3⟩:=k2
        refine ⟨t',⟨hlook',hn',by omega⟩,e3.trans ?_⟩
        unfold m_impl_ValidDatas_A2
        rw [ck_ok (by omega),Option.bind_some])
    (fun g t=>by
      have e:m_impl_ValidDatas_L1 ds m_impl_ValidDatas_A1 (g+1) (ds.length:Int) t=m_impl_ValidDatas_B1 ds (m_impl_ValidDatas_L1 ds m_impl_ValidDatas_A1 g) m_impl_ValidDatas_A1 (ds.length:Int) t:=rfl
      rw [e]
      unfold m_impl_ValidDatas_B1
      rw [dge,cond_false]; rfl) (ds.length+1) MapM.empty [] (Nat.lt_succ_self _) ⟨fun n=>rfl,rfl,by simp⟩
  rw [Bool.not_true,cond_false]
  cases hf:foldN (stepD ds) ds.length 0 [] with
  |none=>rw [hf] at key; exact key
  |some s'=>rw [hf] at key; obtain ⟨_,_,e⟩:=key; exact e
mutual
def simpleD (ds:List DData):DType→Bool
  |⟨k,n,ks⟩=>if k=1 then decide (n=emptyS) && decide (ks.length=0) else if k=2 then decide (ks.length=0) && hasD ds n else if k=3 then decide (n=emptyS) && (decide (ks.length=2) && simpleL ds ks) else false
def simpleL (ds:List DData):List DType→Bool
  |[]=>true
  |x :: xs=>simpleD ds x && simpleL ds xs
end
theorem simpleL_eq (ds:List DData) :∀xs:List DType,simpleL ds xs=xs.all (simpleD ds)
  |[]=>by rw [simpleL]; rfl
  |x :: xs=>by rw [simpleL,simpleL_eq ds xs,List.all_cons]
theorem simpleD_eq (ds:List DData) (x:DType):simpleD ds x=if x.kind=1 then decide (x.name=emptyS) && decide (x.kids.length=0) else if x.kind=2 then decide (x.kids.length=0) && hasD ds x.name else if x.kind=3 then decide (x.name=emptyS) && (decide (x.kids.length=2) && x.kids.all (simpleD ds)) else false:=by
  obtain ⟨a,b,c⟩:=x
  rw [simpleD,simpleL_eq]
theorem two_kids {xs:List DType} (h:xs.length=2) :∃a b,xs=[a,b]:=by
  match xs,h with
  |[a,b],_=>exact ⟨a,b,rfl⟩
theorem p_sSimple (ds:List DData) :∀(gas:Nat) (x:DType),SizeOf.sizeOf x≤gas→m_spec_l20Simple gas ds x=some (simpleD ds x)
  |0,x,h=>by have:=x.pos; omega
  |gas+1,x,hg=>by
    have ih:=p_sSimple ds gas
    have e:m_spec_l20Simple (gas+1) ds x=m_spec_l20Simple_R (m_spec_l20Simple gas) ds x:=rfl
    have hk :∀y∈x.kids,m_spec_l20Simple gas ds y=some (simpleD ds y):=fun y hy=>ih y (by have:=DType.kid_lt hy; omega)
    have l0:((x.kids.length:Int)==0)=decide (x.kids.length=0):=by rw [Bool.eq_iff_iff]; simp
    have l2:((x.kids.length:Int)==2)=decide (x.kids.length=2):=by rw [Bool.eq_iff_iff]; simp; omega
    rw [e,simpleD_eq]
    unfold m_spec_l20Simple_R
    rw [l0,l2,nameEq,p_sNamed,Option.bind_some,idxD_ge]
    by_cases k1:x.kind=1
    · rw [show (x.kind==1)=true by simp [k1],cond_true,if_pos k1]
      cases decide (x.name=emptyS) <;> rfl
    rw [show (x.kind==1)=false by simp [k1],cond_false,if_neg k1]
    by_cases k2:x.kind=2
    · rw [show (x.kind==2)=true by simp [k2],cond_true,if_pos k2]
      cases decide (x.kids.length=0) <;> rfl
    rw [show (x.kind==2)=false by simp [k2],cond_false,if_neg k2]
    by_cases k3:x.kind=3
    · rw [show (x.kind==3)=true by simp [k3],cond_true,if_pos k3]
      cases decide (x.name=emptyS) with
      |false=>rfl
      |true=>
        by_cases hl:x.kids.length=2
        · rw [decide_eq_true hl,cond_true,cond_true]
          obtain ⟨a,b,hab⟩:=two_kids hl
          have ha:=hk a (by rw [hab]; simp)
          have hb:=hk b (by rw [hab]; simp)
          rw [hab]
          have e0:getI [a,b] 0=some a:=rfl
          have e1:getI [a,b] 1=some b:=rfl
          rw [e0,e1,Option.bind_some,ha,Option.bind_some,Option.bind_some,hb,Option.bind_some]
          simp only [List.all_cons,List.all_nil,Bool.and_true,Bool.true_and]
          cases simpleD ds a <;> rfl
        · rw [decide_eq_false hl]; rfl
    rw [show (x.kind==3)=false by simp [k3],cond_false,if_neg k3]
theorem p_iSimple {ds:List DData} (hv:validDs ds=true) :∀(gas:Nat) (x:DType),SizeOf.sizeOf x≤gas→m_impl_isSimple gas ds x=some (simpleD ds x)
  |0,x,h=>by have:=x.pos; omega
  |gas+1,x,hg=>by
    have ih:=p_iSimple hv gas
    have e:m_impl_isSimple (gas+1) ds x=m_impl_isSimple_R (m_impl_isSimple gas) ds x:=rfl
    have hk :∀y∈x.kids,m_impl_isSimple gas ds y=some (simpleD ds y):=fun y hy=>ih y (by have:=DType.kid_lt hy; omega)
    have l0:((x.kids.length:Int)==0)=decide (x.kids.length=0):=by rw [Bool.eq_iff_iff]; simp
    have l2:((x.kids.length:Int)==2)=decide (x.kids.length=2):=by rw [Bool.eq_iff_iff]; simp; omega
    rw [e,simpleD_eq]
    unfold m_impl_isSimple_R
    rw [l0,l2,nameEq,nameEq,p_iFind,Option.bind_some,idxD_ge,p_iUpper,Option.bind_some]
    by_cases k1:x.kind=1
    · rw [show (x.kind==1)=true by simp [k1],cond_true,if_pos k1]
      cases decide (x.name=emptyS) <;> rfl
    rw [show (x.kind==1)=false by simp [k1],cond_false,if_neg k1]
    by_cases k2:x.kind=2
    · rw [show (x.kind==2)=true by simp [k2],cond_true,if_pos k2]
      have hn:=fun h=>validDs_name hv (n:=x.name) h
      change (bif decide (x.name=intS) then _ else _)=_
      cases hd:hasD ds x.name with
      |true=>
        obtain ⟨h1,h2⟩:=hn hd
        unfold hasD at hd
        rw [decide_eq_false h2,h1,hd]
        cases decide (x.kids.length=0) <;> rfl
      |false=>
        unfold hasD at hd
        rw [hd]
        cases decide (x.name=intS) <;> cases upperD x.name <;> cases decide (x.kids.length=0) <;> rfl
    rw [show (x.kind==2)=false by simp [k2],cond_false,if_neg k2]
    by_cases k3:x.kind=3
    · rw [show (x.kind==3)=true by simp [k3],cond_true,if_pos k3]
      cases decide (x.name=emptyS) with
      |false=>rfl
      |true=>
        by_cases hl:x.kids.length=2
        · rw [decide_eq_true hl,cond_true,cond_true]
          obtain ⟨a,b,hab⟩:=two_kids hl
          have ha:=hk a (by rw [hab]; simp)
          have hb:=hk b (by rw [hab]; simp)
          rw [hab]
          have e0:getI [a,b] 0=some a:=rfl
          have e1:getI [a,b] 1=some b:=rfl
          rw [e0,e1,Option.bind_some,ha,Option.bind_some,Option.bind_some,hb,Option.bind_some]
          simp only [List.all_cons,List.all_nil,Bool.and_true,Bool.true_and]
          cases simpleD ds a <;> rfl
        · rw [decide_eq_false hl]; rfl
    rw [show (x.kind==3)=false by simp [k3],cond_false,if_neg k3]
def validSig (x:DSignature):Bool:=validDs x.datas && (decide (x.defs.length≤24) && ((x.datas.all fun d=>d.cons.all fun c=>c.fields.all (simpleD x.datas)) && x.defs.all (simpleD x.datas)))
theorem szSig_parts {x:DSignature} (hs:szSignature x≤1048576):szDataS x.datas≤1048576∧szTypeS x.defs≤1048576:=by unfold szSignature at hs; omega
theorem p_sSignature (x:DSignature) (hs:szSignature x≤1048576):m_spec_l20Signature x=some (validSig x):=by
  obtain ⟨hsd,hst⟩:=szSig_parts hs
  unfold m_spec_l20Signature validSig
  rw [p_sOk _ hsd,Option.bind_some]
  cases hv:validDs x.datas with
  |false=>rfl
  |true=>
  have hl4:x.datas.length≤4:=by unfold validDs at hv; rw [Bool.and_eq_true] at hv; exact of_decide_eq_true hv.1
  rw [cond_true,Bool.true_and,show decide ((x.defs.length:Int) > 24) = !decide (x.defs.length≤24) by rw [← decide_not]; exact decide_eq_decide.2 (by omega)]
  cases decide (x.defs.length≤24) with
  |false=>rfl
  |true=>
  simp only [Bool.not_true,cond_false,Bool.true_and]
  have kd:m_spec_l20Signature_A1 x=some (x.defs.all (simpleD x.datas)):=by
    unfold m_spec_l20Signature_A1
    have key:=allK (L:=m_spec_l20Signature_L2 x m_spec_l20Signature_A2) (d:=x.defs) (p:=simpleD x.datas) (K:=some true) (z:=some false)
      (fun g k hk=>by simp -implicitDefEqProofs only [m_spec_l20Signature_L2,m_spec_l20Signature_B2,dlt hk,cond_true,getI_lt hk,Option.bind_some,p_sSimple x.datas _ _ (Nat.le_refl _)])
      (fun g=>by simp -implicitDefEqProofs only [m_spec_l20Signature_L2,m_spec_l20Signature_B2,dge,cond_false,m_spec_l20Signature_A2]) _ (Nat.lt_succ_self _)
    rw [key]
    cases x.defs.all (simpleD x.datas) <;> rfl
  have key:=allK (L:=m_spec_l20Signature_L1 x (m_spec_l20Signature_A1 x)) (d:=x.datas) (p:=fun d=>d.cons.all fun c=>c.fields.all (simpleD x.datas)) (K:=m_spec_l20Signature_A1 x) (z:=some false)
    (fun g i hi=>by
      have hc:=szDat_cons hsd hi
      have hlc:=szCon_len hc
      have e:m_spec_l20Signature_L1 x (m_spec_l20Signature_A1 x) (g+1) (i:Int)=m_spec_l20Signature_B1 x (m_spec_l20Signature_L1 x (m_spec_l20Signature_A1 x) g) (m_spec_l20Signature_A1 x) (i:Int):=rfl
      rw [e]
      unfold m_spec_l20Signature_B1
      rw [dlt hi,cond_true,getI_lt hi,Option.getD_some]
      have k3:=allK (L:=m_spec_l20Signature_L3 x (i:Int) (m_spec_l20Signature_A3 (m_spec_l20Signature_L1 x (m_spec_l20Signature_A1 x) g) (i:Int))) (d:=x.datas[i].cons) (p:=fun c=>c.fields.all (simpleD x.datas)) (K:=m_spec_l20Signature_A3 (m_spec_l20Signature_L1 x (m_spec_l20Signature_A1 x) g) (i:Int)) (z:=some false)
        (fun g2 k hk=>by
          have hft:=szCon_fields hc hk
          have e2:m_spec_l20Signature_L3 x (i:Int) (m_spec_l20Signature_A3 (m_spec_l20Signature_L1 x (m_spec_l20Signature_A1 x) g) (i:Int)) (g2+1) (k:Int)=m_spec_l20Signature_B3 x (i:Int) (m_spec_l20Signature_L3 x (i:Int) (m_spec_l20Signature_A3 (m_spec_l20Signature_L1 x (m_spec_l20Signature_A1 x) g) (i:Int)) g2) (m_spec_l20Signature_A3 (m_spec_l20Signature_L1 x (m_spec_l20Signature_A1 x) g) (i:Int)) (k:Int):=rfl
          rw [e2]
          unfold m_spec_l20Signature_B3
          rw [getI_lt hi,Option.bind_some,dlt hk,cond_true,Option.getD_some,getI_lt hk,Option.getD_some]
          have k4:=allK (L:=m_spec_l20Signature_L4 x (i:Int) (k:Int) (m_spec_l20Signature_A4 (m_spec_l20Signature_L3 x (i:Int) (m_spec_l20Signature_A3 (m_spec_l20Signature_L1 x (m_spec_l20Signature_A1 x) g) (i:Int)) g2) (k:Int))) (d:=x.datas[i].cons[k].fields) (p:=simpleD x.datas) (K:=m_spec_l20Signature_A4 (m_spec_l20Signature_L3 x (i:Int) (m_spec_l20Signature_A3 (m_spec_l20Signature_L1 x (m_spec_l20Signature_A1 x) g) (i:Int)) g2) (k:Int)) (z:=some false)
            (fun g3 m hm=>by simp -implicitDefEqProofs only [m_spec_l20Signature_L4,m_spec_l20Signature_B4,getI_lt hi,getI_lt hk,dlt hm,cond_true,getI_lt hm,Option.bind_some,p_sSimple x.datas _ _ (Nat.le_refl _)])
            (fun g3=>by simp -implicitDefEqProofs only [m_spec_l20Signature_L4,m_spec_l20Signature_B4,getI_lt hi,getI_lt hk,Option.bind_some,dge,cond_false]) (x.datas[i].cons[k].fields.length+1) (Nat.lt_succ_self _)
          rw [k4]
          unfold m_spec_l20Signature_A4
          rw [ck_ok (by omega),Option.bind_some])
        (fun g2=>by
          have e2:m_spec_l20Signature_L3 x (i:Int) (m_spec_l20Signature_A3 (m_spec_l20Signature_L1 x (m_spec_l20Signature_A1 x) g) (i:Int)) (g2+1) (x.datas[i].cons.length:Int)=m_spec_l20Signature_B3 x (i:Int) (m_spec_l20Signature_L3 x (i:Int) (m_spec_l20Signature_A3 (m_spec_l20Signature_L1 x (m_spec_l20Signature_A1 x) g) (i:Int)) g2) (m_spec_l20Signature_A3 (m_spec_l20Signature_L1 x (m_spec_l20Signature_A1 x) g) (i:Int)) (x.datas[i].cons.length:Int):=rfl
          rw [e2]
          unfold m_spec_l20Signature_B3
          rw [getI_lt hi,Option.bind_some,dge,cond_false]) (x.datas[i].cons.length+1) (Nat.lt_succ_self _)
      rw [k3]
      unfold m_spec_l20Signature_A3
      rw [ck_ok (by omega),Option.bind_some])
    (fun g=>by
      have e:m_spec_l20Signature_L1 x (m_spec_l20Signature_A1 x) (g+1) (x.datas.length:Int)=m_spec_l20Signature_B1 x (m_spec_l20Signature_L1 x (m_spec_l20Signature_A1 x) g) (m_spec_l20Signature_A1 x) (x.datas.length:Int):=rfl
      rw [e]
      unfold m_spec_l20Signature_B1
      rw [dge,cond_false]) (x.datas.length+1) (Nat.lt_succ_self _)
  rw [key,kd]
  cases (x.datas.all fun d=>d.cons.all fun c=>c.fields.all (simpleD x.datas)) <;> rfl
theorem p_iValidSignature (x:DSignature) (hs:szSignature x≤1048576):m_impl_ValidSignature x=some (validSig x):=by
  obtain ⟨hsd,hst⟩:=szSig_parts hs
  unfold m_impl_ValidSignature validSig
  rw [p_iOk _ hsd,Option.bind_some]
  cases hv:validDs x.datas with
  |false=>rfl
  |true=>
  have hl4:x.datas.length≤4:=by unfold validDs at hv; rw [Bool.and_eq_true] at hv; exact of_decide_eq_true hv.1
  rw [cond_true,Bool.true_and,show decide ((x.defs.length:Int) > 24) = !decide (x.defs.length≤24) by rw [← decide_not]; exact decide_eq_decide.2 (by omega)]
  cases decide (x.defs.length≤24) with
  |false=>rfl
  |true=>
  simp only [Bool.not_true,cond_false,Bool.true_and]
  have s1 :∀t,m_impl_ValidSignature_1 t x=some (!simpleD x.datas t):=fun t=>by
    unfold m_impl_ValidSignature_1
    rw [p_iSimple hv _ _ (Nat.le_refl _),Option.bind_some]
  have s2 :∀t,m_impl_ValidSignature_2 t x=some (!simpleD x.datas t):=fun t=>by
    unfold m_impl_ValidSignature_2
    rw [p_iSimple hv _ _ (Nat.le_refl _),Option.bind_some]
  have kd:m_impl_ValidSignature_A1 x=some (x.defs.all (simpleD x.datas)):=by
    unfold m_impl_ValidSignature_A1
    rw [p_contT (p:=fun t=>!simpleD x.datas t) (fun t _=>s2 t),Option.bind_some,not_any_not]
  have key:=allK (L:=m_impl_ValidSignature_L1 x (m_impl_ValidSignature_A1 x)) (d:=x.datas) (p:=fun d=>d.cons.all fun c=>c.fields.all (simpleD x.datas)) (K:=m_impl_ValidSignature_A1 x) (z:=some false)
    (fun g i hi=>by
      have e:m_impl_ValidSignature_L1 x (m_impl_ValidSignature_A1 x) (g+1) (i:Int)=m_impl_ValidSignature_B1 x (m_impl_ValidSignature_L1 x (m_impl_ValidSignature_A1 x) g) (m_impl_ValidSignature_A1 x) (i:Int):=rfl
      rw [e]
      unfold m_impl_ValidSignature_B1
      rw [dlt hi,cond_true,getI_lt hi,Option.bind_some]
      have k3:=allK (L:=m_impl_ValidSignature_L2 x x.datas[i] (m_impl_ValidSignature_A2 (m_impl_ValidSignature_L1 x (m_impl_ValidSignature_A1 x) g) (i:Int))) (d:=x.datas[i].cons) (p:=fun c=>c.fields.all (simpleD x.datas)) (K:=m_impl_ValidSignature_A2 (m_impl_ValidSignature_L1 x (m_impl_ValidSignature_A1 x) g) (i:Int)) (z:=some false)
        (fun g2 k hk=>by
          simp -implicitDefEqProofs only [m_impl_ValidSignature_L2,m_impl_ValidSignature_B2,dlt hk,cond_true,getI_lt hk,Option.bind_some]
          rw [p_contT (p:=fun t=>!simpleD x.datas t) (fun t _=>s1 t),Option.bind_some,← not_any_not]
          cases (x.datas[i].cons[k].fields.any fun t=>!simpleD x.datas t) <;> rfl)
        (fun g2=>by simp -implicitDefEqProofs only [m_impl_ValidSignature_L2,m_impl_ValidSignature_B2,dge,cond_false]) (x.datas[i].cons.length+1) (Nat.lt_succ_self _)
      rw [k3]
      unfold m_impl_ValidSignature_A2
      rw [ck_ok (by omega),Option.bind_some])
    (fun g=>by
      have e:m_impl_ValidSignature_L1 x (m_impl_ValidSignature_A1 x) (g+1) (x.datas.length:Int)=m_impl_ValidSignature_B1 x (m_impl_ValidSignature_L1 x (m_impl_ValidSignature_A1 x) g) (m_impl_ValidSignature_A1 x) (x.datas.length:Int):=rfl
      rw [e]
      unfold m_impl_ValidSignature_B1
      rw [dge,cond_false]) (x.datas.length+1) (Nat.lt_succ_self _)
  rw [key,kd]
  cases (x.datas.all fun d=>d.cons.all fun c=>c.fields.all (simpleD x.datas)) <;> rfl
end
section
open Go.RowKit
theorem portsOf_kind {k f:Int} (h:0 < portsOf k f):1≤k∧k≤12:=by
  unfold portsOf at h
  split at h
  · omega
  · split at h
    · omega
    · split at h
      · omega
      · split at h
        · omega
        · split at h <;> omega
structure Good (xs:List DAgent):Prop where
  one:1≤xs.length
  len:xs.length≤600
  ok :∀(i:Nat) (x:DAgent),xs[i]? = some x→agentOk x=true
  root :∀(i:Nat) (x:DAgent),xs[i]? = some x→(x.kind=1↔i=0)
  ports:PortsOk xs
theorem good {d:DNet} (h:validNet d=true):Good d.agents:=by
  obtain ⟨⟨h1,h2,h3⟩,h4⟩:=validNet_iff.1 h
  exact ⟨h1,h2,fun i x hx=>(h3 i x hx).1,fun i x hx=>by have:=(h3 i x hx).2; simpa using this,h4⟩
theorem agentOk_pos {x:DAgent} (h:agentOk x=true):0 < x.ports.length∧1≤x.kind∧x.kind≤12:=by
  unfold agentOk at h
  simp only [Bool.and_eq_true,decide_eq_true_eq] at h
  have:=portsOf_kind h.1.1.1
  omega
theorem Good.pos {xs:List DAgent} (G:Good xs) {i:Nat} {x:DAgent} (hx:xs[i]? = some x):0 < x.ports.length:=(agentOk_pos (G.ok i x hx)).1
def before (p q:DPort):Bool:=decide (p.agent < q.agent)||(p.agent==q.agent && decide (p.slot < q.slot))
end
section
open Go.RowKit
/-- A cell that holds a function. -/
def fncRd (f:FuncId):Rd Unit:=fun _ _ cs _=>cs=[.func (.func f) #[] #[]]
section
variable {α : Type} {R : Rd α} {sz g : Nat} {w : World} {e : TypeId} {cs1 cs2 : List Value} {x1 x2 : α}
theorem rdlitS2 (ok:RdOk R sz) (B:Blk w g e (cs1 ++ cs2).toArray) (h1:R w w.heap.size cs1 x1) (h2:R w w.heap.size cs2 x2):SlAt R sz w w.heap.size (some ⟨g,0,none⟩) 2 [x1,x2]:=by
  refine ⟨rfl,fun _=>⟨g,0,rfl,B.lt,fun i x hx=>?_⟩⟩
  have l1:=ok.len h1
  rcases i with _|_|i
  · simp at hx; subst hx
    refine ⟨cs1,h1,fun j v hj=>?_⟩
    have hl:j < cs1.length:=lt_of_some hj
    rw [show 0+0 * sz+j=j by omega,B.cell]
    simp only [List.getElem?_toArray]
    rw [List.getElem?_append_left hl]
    exact hj
  · simp at hx; subst hx
    refine ⟨cs2,h2,fun j v hj=>?_⟩
    rw [show 0+(0+1) * sz+j=sz+j by omega,B.cell]
    simp only [List.getElem?_toArray]
    rw [← l1,List.getElem?_append_right (by omega),Nat.add_sub_cancel_left]
    exact hj
  · simp at hx
end
end
end Go.Proofs.YtpbobilkejblgaaGreat
