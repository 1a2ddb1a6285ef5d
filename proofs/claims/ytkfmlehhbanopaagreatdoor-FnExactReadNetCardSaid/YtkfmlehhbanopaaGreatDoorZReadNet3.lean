/- Lemmas of the proof of ReadNet, part 3. No condition. -/
import Derived.Test.YtkfmlehhbanopaaGreatDoorZReadNet2
namespace Go.Proofs.YtkfmlehhbanopaaGreatDoor
set_option linter.unusedVariables false
set_option linter.unusedSimpArgs false
section
open Go.RowKit
set_option maxRecDepth 100000
def m_spec_Decimal_A2 (xs22:List Int):Option ByteArray:=
  some (ofNums xs22)
def m_spec_Decimal_B2 (xs11:List Int) (rec2:List Int→Int→Option ByteArray) (K2:List Int→Option ByteArray) (xs24:List Int) (i25:Int):Option ByteArray:=
  (bif (decide (i25 ≥ 0)) then ((getI xs11 i25).bind fun x28=>((mustP (xs24.length+([x28]).length≤4294967296)).bind fun _=>((ck (i25 - 1)).bind fun s49=>(rec2 (xs24 ++ [x28]) s49)))) else (K2 xs24))
def m_spec_Decimal_L2 (xs11:List Int) (K2:List Int→Option ByteArray):Nat→List Int→Int→Option ByteArray
  |0,_,_=>none
  |g+1,xs24,i25=>m_spec_Decimal_B2 xs11 (m_spec_Decimal_L2 xs11 K2 g) K2 xs24 i25
def m_spec_Decimal_Aj2 (xs11:List Int):Option ByteArray:=
  ((ck ((xs11.length:Int) - 1)).bind fun s21=>(m_spec_Decimal_L2 xs11 m_spec_Decimal_A2 (30) ([] : List Int) s21))
def m_spec_Decimal_Aj1 (d0:Int) (xs9:List Int):Option ByteArray:=
  (bif (decide (d0 < 0)) then ((mustP (xs9.length+([45]).length≤4294967296)).bind fun _=>(m_spec_Decimal_Aj2 (xs9 ++ [45]))) else (m_spec_Decimal_Aj2 xs9))
def m_spec_Decimal_A1 (d0:Int) (xs7:List Int):Option ByteArray:=
  (bif (d0==0) then ((mustP (xs7.length+([48]).length≤4294967296)).bind fun _=>(m_spec_Decimal_Aj1 d0 (xs7 ++ [48]))) else (m_spec_Decimal_Aj1 d0 xs7))
def m_spec_Decimal_B1 (rec1:List Int→Int→Option ByteArray) (K1:List Int→Option ByteArray) (xs83:List Int) (i84:Int):Option ByteArray:=
  (bif (i84 != 0) then (bif (decide ((i84.tmod 10) < 0)) then ((negI (i84.tmod 10)).bind fun s105=>((ck (48+s105)).bind fun s107=>((mustP (xs83.length+([(u8w s107)]).length≤4294967296)).bind fun _=>((ck (i84.tdiv 10)).bind fun s123=>(rec1 (xs83 ++ [(u8w s107)]) (i84.tdiv 10)))))) else ((ck (48+(i84.tmod 10))).bind fun s88=>((mustP (xs83.length+([(u8w s88)]).length≤4294967296)).bind fun _=>((ck (i84.tdiv 10)).bind fun s104=>(rec1 (xs83 ++ [(u8w s88)]) (i84.tdiv 10)))))) else (K1 xs83))
def m_spec_Decimal_L1 (K1:List Int→Option ByteArray):Nat→List Int→Int→Option ByteArray
  |0,_,_=>none
  |g+1,xs83,i84=>m_spec_Decimal_B1 (m_spec_Decimal_L1 K1 g) K1 xs83 i84
def m_spec_Decimal (d0:Int):Option ByteArray:=
  (m_spec_Decimal_L1 (m_spec_Decimal_A1 d0) (21) ([] : List Int) d0)
set_option maxHeartbeats 2000000 in
theorem c_m_spec_Decimal (d0:Int) (r:ByteArray) (hm:m_spec_Decimal d0=some r)  (w:World)  :
    Calls Tryz.prog 61 #[.int .i64 d0] w fun e w'=>e=.returned (.string r)∧Below w.heap.size w w':=by
  have T:=Below.refl w.heap.size w
  unfold m_spec_Decimal at hm
  refine enter 53 Tryz.func61 rfl rfl rfl ?_
  intro f hf
  have s0:f 0=.int .i64 d0:=hf 0 _ rfl
  refine wp_seq<|wp_rs rfl<|RQ.y rfl (Y.assign (v:=.string (ByteArray.mk #[])) rfl)<|RQ.nil<|then_n<|wp_seq<|wp_rl rfl ?_
  refine RL.bslice (e:=5) (cells:=#[]) rfl pm0 (by kernel_rfl) (fun w1 B2 hb3 szw1=>?_)
  have ZB2:w.heap.size≤w.heap.size:=T.size
  have T:=Tt T hb3
  have G5:=OwF.lit (enc:=encU) (sz:=1) (xs:=([] : List Int)) B2 ZB2 rfl rfl rfl rfl
  refine RL.y rfl (Y.assign (v:=.slice (some ⟨w.heap.size,0,none⟩) 0 0) rfl)<|RL.nil<|then_n<|wp_seq<|wp_rs rfl<|RQ.y rfl (Y.move (v:=.int .i64 d0) s0)<|RQ.y rfl (Y.assign (v:=.int .i64 d0) rfl)<|RQ.nil<|then_n<|wp_seq<|wp_block ?_
  obtain ⟨K1,hK1,hm⟩ :∃K,K=(m_spec_Decimal_A1 d0)∧m_spec_Decimal_L1 K (21) ([] : List Int) d0=some r:=⟨_,rfl,hm⟩
  refine wp_loopX (fun g f w'=>∃(xs83:List Int) (i84:Int) (uxs83:Value),f 0=.int .i64 d0∧f 3=uxs83∧OwF 5 encU 1 w' w.heap.size uxs83 xs83∧f 4=.int .i64 i84∧Below w.heap.size w w'∧m_spec_Decimal_L1 K1 g xs83 i84=some r) 0 (fun f w'=>∃(xs7:List Int) (uxs7:Value),f 0=.int .i64 d0∧f 3=uxs7∧OwF 5 encU 1 w' w.heap.size uxs7 xs7∧Below w.heap.size w w'∧m_spec_Decimal_A1 d0 xs7=some r) (21) ⟨([] : List Int),d0,(.slice (some ⟨w.heap.size,0,none⟩) 0 0),s0,rfl,G5,rfl,T,hm⟩ ?_ ?_
  ·rintro f w8 ⟨xs7,uxs7,s0_1x,s3_1x,Guxs7,T,hm⟩
   unfold m_spec_Decimal_A1 at hm
   refine blk_hit (then_n ?_)
   refine cutRest (K:=(fun f w'=>∃(xs9:List Int) (uxs9:Value),f 0=.int .i64 d0∧f 3=uxs9∧OwF 5 encU 1 w' w.heap.size uxs9 xs9∧Below w.heap.size w w'∧m_spec_Decimal_Aj1 d0 xs9=some r)) ?_ ?_
   ·rintro f w10 ⟨xs9,uxs9,s0_j1x,s3_j1x,Guxs9,T,hm⟩
    unfold m_spec_Decimal_Aj1 at hm
    refine cutRest (K:=(fun f w'=>∃(xs11:List Int) (uxs11:Value),f 3=uxs11∧OwF 5 encU 1 w' w.heap.size uxs11 xs11∧Below w.heap.size w w'∧m_spec_Decimal_Aj2 xs11=some r)) ?_ ?_
    ·rintro f w12 ⟨xs11,uxs11,s3_j2x,Guxs11,T,hm⟩
     unfold m_spec_Decimal_Aj2 at hm
     refine wp_seq<|wp_rl rfl ?_
     refine RL.bslice (e:=5) (cells:=#[]) rfl pm0 (by kernel_rfl) (fun w13 B14 hb15 szw13=>?_)
     have ZB14:w.heap.size≤w12.heap.size:=T.size
     have Do16_oxs11:=Dj.new (v:=.slice (some ⟨w12.heap.size,0,none⟩) 0 0) litGe (OwF.hi Guxs11)
     have Guxs11:=OwF.below Guxs11 hb15
     have T:=Tt T hb15
     have G17:=OwF.lit (enc:=encU) (sz:=1) (xs:=([] : List Int)) B14 ZB14 rfl rfl rfl rfl
     refine RL.y rfl (Y.assign (v:=.slice (some ⟨w12.heap.size,0,none⟩) 0 0) rfl)<|RL.nil<|then_n<|wp_seq<|wp_seq<|wp_rs rfl<|RQ.y rfl (Y.move (v:=uxs11) s3_j2x) ?_
     obtain ⟨A19,c20,rfl⟩:=OwF.form Guxs11
     have qbA19:=OwF.bound Guxs11
     refine RQ.y rfl (Y.len (by kernel_rfl) rfl) ?_
     obtain ⟨s21,ks21,hm⟩:=bnd hm
     replace ks21:=ck_some ks21
     refine RQ.y rfl (Y.binI (v:=.int .i64 s21) rfl rfl (by rw [binI_sub ks21.2,ks21.1]))<|RQ.y rfl (Y.assign (v:=.int .i64 s21) rfl)<|RQ.nil<|then_n<|wp_block ?_
     obtain ⟨K2,hK2,hm⟩ :∃K,K=m_spec_Decimal_A2∧m_spec_Decimal_L2 xs11 K (30) ([] : List Int) s21=some r:=⟨_,rfl,hm⟩
     refine wp_loopX (fun g f w'=>∃(xs24:List Int) (i25:Int) (uxs24:Value),f 3=.slice A19 xs11.length c20∧f 6=uxs24∧OwF 5 encU 1 w' w.heap.size uxs24 xs24∧f 7=.int .i64 i25∧Dj uxs24 (.slice A19 xs11.length c20)∧OwF 5 encU 1 w' w.heap.size (.slice A19 xs11.length c20) xs11∧Below w.heap.size w w'∧m_spec_Decimal_L2 xs11 K2 g xs24 i25=some r) 2 (fun f w'=>∃(xs22:List Int) (uxs22:Value),f 6=uxs22∧OwF 5 encU 1 w' w.heap.size uxs22 xs22∧Below w.heap.size w w'∧m_spec_Decimal_A2 xs22=some r) (30) ⟨([] : List Int),s21,(.slice (some ⟨w12.heap.size,0,none⟩) 0 0),s3_j2x,rfl,G17,rfl,(Ap.dj (Dj.ap Do16_oxs11)),Guxs11,T,hm⟩ ?_ ?_
     ·rintro f w23 ⟨xs22,uxs22,s6_2x,Guxs22,T,hm⟩
      unfold m_spec_Decimal_A2 at hm
      refine blk_hit (then_n ?_)
      refine wp_seq<|wp_rs rfl<|RQ.y rfl (Y.move (v:=uxs22) s6_2x)<|RQ.y rfl (Y.b2s (e:=5) (xs:=xs22) (lo:=w.heap.size) rfl (by kernel_rfl) (by kernel_rfl) (by kernel_rfl) (fun w' e=>by rw [e]; exact Guxs22))<|RQ.y rfl (Y.assign (v:=.string (ofNums xs22)) rfl)<|RQ.nil<|then_n<|wp_ret ?_
      obtain rfl:=sj hm
      exact (ret1 rfl rfl rfl ⟨rfl,T⟩)
     rintro g f w26 ⟨xs24,i25,uxs24,s3_2,s6_2,Guxs24,s7_2,Doxs24_oxs11,Guxs11,T,hm⟩
     rcases g with _|g
     ·simp only [m_spec_Decimal_L2] at hm; cases hm
     obtain ⟨rec2,hrec2,hm⟩ :∃z,z=m_spec_Decimal_L2 xs11 K2 g∧m_spec_Decimal_B2 xs11 z K2 xs24 i25=some r:=⟨_,rfl,hm⟩
     unfold m_spec_Decimal_B2 at hm
     refine wp_seq<|wp_seq<|wp_rs rfl<|RQ.y rfl (Y.move (v:=.int .i64 i25) s7_2)<|RQ.y rfl (Y.binI (v:=.bool (decide (i25 ≥ 0))) rfl rfl rfl)<|RQ.nil<|then_n ?_
     rcases bcases (decide (i25 ≥ 0)) with c27|c27
     ·replace hm:=cF c27 hm
      have pc27:=of_decide_eq_false c27
      refine cond_f rfl (vb rfl c27)<|wp_exit ?_
      exact (then_x (then_x (hit_x ⟨_,rfl,⟨xs24,(uxs24),s6_2,Guxs24,T,(by rw [hK2] at hm; exact hm)⟩⟩)))
     replace hm:=cT c27 hm
     have pc27:=of_decide_eq_true c27
     refine cond_t rfl (vb rfl c27)<|wp_skip<|then_n<|wp_seq<|wp_block<|wp_rl rfl<|RL.y rfl (Y.move (v:=uxs24) s6_2)<|RL.y rfl (Y.move (v:=.slice A19 xs11.length c20) s3_2)<|RL.y rfl (Y.move (v:=.int .i64 i25) s7_2) ?_
     obtain ⟨x28,hx30,hm⟩:=bnd hm
     obtain ⟨k29,hk31,hl32,hx30⟩:=getI_some hx30
     obtain ⟨b33,rfl⟩:=OwF.addr0 Guxs11 (by omega)
     refine RL.y rfl (Y.indexAddr (m:=k29) (sz:=1) rfl rfl hk31 hl32 (by kernel_rfl))<|RL.y rfl (Y.load (v:=.int .u8 x28) rfl (by kernel_rfl) (eqC (OwF.cell fU Guxs11 hx30 (j:=0) rfl))) ?_
     refine RL.bslice (e:=5) (cells:=#[.int .u8 x28]) rfl (pm1 rfl) (by kernel_rfl) (fun w34 B35 hb36 szw34=>?_)
     have ZB35:w.heap.size≤w26.heap.size:=T.size
     have Do37_oxs11:=Dj.new (v:=.slice (some ⟨w26.heap.size,0,none⟩) 1 1) litGe (OwF.hi Guxs11)
     have Do37_oxs24:=Dj.new (v:=.slice (some ⟨w26.heap.size,0,none⟩) 1 1) litGe (OwF.hi Guxs24)
     have Guxs11:=OwF.below Guxs11 hb36
     have Guxs24:=OwF.below Guxs24 hb36
     have T:=Tt T hb36
     have G38:=OwF.lit (enc:=encU) (sz:=1) (xs:=[x28]) B35 ZB35 rfl rfl rfl rfl
     obtain ⟨_,m40,hm⟩:=bnd hm
     have hk41:=mustP_some m40
     refine RL.append fU app_uint8 rfl rfl rfl Guxs24 (OwF.arg fU G38) T.size hk41 (fun v42 w43 G44 hgr45 hbl46 hnb47=>?_)
     have szw43:=hbl46.size
     have Do48_oxs11:=Dj.app Doxs24_oxs11 hnb47 (OwF.hi Guxs11)
     have Guxs11:=OwF.keptD Guxs11 hgr45 (Dj.symm Doxs24_oxs11)
     have T:=T.trans hbl46
     refine RL.y rfl (Y.assign (v:=v42) rfl)<|RL.nil ?_
     refine blk_n (then_n ?_)
     refine wp_rs rfl<|RQ.y rfl (Y.move (v:=.int .i64 i25) s7_2) ?_
     obtain ⟨s49,ks49,hm⟩:=bnd hm
     replace ks49:=ck_some ks49
     refine RQ.y rfl (Y.binI (v:=.int .i64 s49) rfl rfl (by rw [binI_sub ks49.2,ks49.1]))<|RQ.y rfl (Y.assign (v:=.int .i64 s49) rfl)<|RQ.nil ?_
     exact (then_n ⟨g,_,Nat.lt_succ_self _,rfl,⟨(xs24 ++ [x28]),s49,(v42),s3_2,rfl,G44,rfl,(Ap.dj (Dj.ap Do48_oxs11)),Guxs11,T,(by rw [← hrec2]; exact hm)⟩⟩)
    intro hJj2
    refine wp_seq<|wp_seq<|wp_rs rfl<|RQ.y rfl (Y.move (v:=.int .i64 d0) s0_j1x)<|RQ.y rfl (Y.binI (v:=.bool (decide (d0 < 0))) rfl rfl rfl)<|RQ.nil<|then_n ?_
    rcases bcases (decide (d0 < 0)) with c51|c51
    ·replace hm:=cF c51 hm
     have pc51:=of_decide_eq_false c51
     refine cond_f rfl (vb rfl c51)<|wp_skip<|then_n ?_
     exact hJj2 _ _ ⟨xs9,(uxs9),s3_j1x,Guxs9,T,hm⟩
    replace hm:=cT c51 hm
    have pc51:=of_decide_eq_true c51
    refine cond_t rfl (vb rfl c51)<|wp_rl rfl<|RL.y rfl (Y.move (v:=uxs9) s3_j1x) ?_
    refine RL.bslice (e:=5) (cells:=#[.int .u8 45]) rfl (pm1 rfl) (by kernel_rfl) (fun w52 B53 hb54 szw52=>?_)
    have ZB53:w.heap.size≤w10.heap.size:=T.size
    have Do55_oxs9:=Dj.new (v:=.slice (some ⟨w10.heap.size,0,none⟩) 1 1) litGe (OwF.hi Guxs9)
    have Guxs9:=OwF.below Guxs9 hb54
    have T:=Tt T hb54
    have G56:=OwF.lit (enc:=encU) (sz:=1) (xs:=[45]) B53 ZB53 rfl rfl rfl rfl
    obtain ⟨_,m58,hm⟩:=bnd hm
    have hk59:=mustP_some m58
    refine RL.append fU app_uint8 rfl rfl rfl Guxs9 (OwF.arg fU G56) T.size hk59 (fun v60 w61 G62 hgr63 hbl64 hnb65=>?_)
    have szw61:=hbl64.size
    have T:=T.trans hbl64
    refine RL.y rfl (Y.assign (v:=v60) rfl)<|RL.nil<|then_n ?_
    exact hJj2 _ _ ⟨(xs9 ++ [45]),(v60),rfl,G62,T,hm⟩
   intro hJj1
   refine wp_seq<|wp_seq<|wp_rs rfl<|RQ.y rfl (Y.move (v:=.int .i64 d0) s0_1x)<|RQ.y rfl (Y.binI (v:=.bool (d0==0)) rfl rfl rfl)<|RQ.nil<|then_n ?_
   rcases bcases (d0==0) with c67|c67
   ·replace hm:=cF c67 hm
    refine cond_f rfl (vb rfl c67)<|wp_skip<|then_n ?_
    exact hJj1 _ _ ⟨xs7,(uxs7),s0_1x,s3_1x,Guxs7,T,hm⟩
   replace hm:=cT c67 hm
   refine cond_t rfl (vb rfl c67)<|wp_rl rfl<|RL.y rfl (Y.move (v:=uxs7) s3_1x) ?_
   refine RL.bslice (e:=5) (cells:=#[.int .u8 48]) rfl (pm1 rfl) (by kernel_rfl) (fun w68 B69 hb70 szw68=>?_)
   have ZB69:w.heap.size≤w8.heap.size:=T.size
   have Do71_oxs7:=Dj.new (v:=.slice (some ⟨w8.heap.size,0,none⟩) 1 1) litGe (OwF.hi Guxs7)
   have Guxs7:=OwF.below Guxs7 hb70
   have T:=Tt T hb70
   have G72:=OwF.lit (enc:=encU) (sz:=1) (xs:=[48]) B69 ZB69 rfl rfl rfl rfl
   obtain ⟨_,m74,hm⟩:=bnd hm
   have hk75:=mustP_some m74
   refine RL.append fU app_uint8 rfl rfl rfl Guxs7 (OwF.arg fU G72) T.size hk75 (fun v76 w77 G78 hgr79 hbl80 hnb81=>?_)
   have szw77:=hbl80.size
   have T:=T.trans hbl80
   refine RL.y rfl (Y.assign (v:=v76) rfl)<|RL.nil<|then_n ?_
   exact hJj1 _ _ ⟨(xs7 ++ [48]),(v76),s0_1x,rfl,G78,T,hm⟩
  rintro g f w85 ⟨xs83,i84,uxs83,s0_1,s3_1,Guxs83,s4_1,T,hm⟩
  rcases g with _|g
  ·simp only [m_spec_Decimal_L1] at hm; cases hm
  obtain ⟨rec1,hrec1,hm⟩ :∃z,z=m_spec_Decimal_L1 K1 g∧m_spec_Decimal_B1 z K1 xs83 i84=some r:=⟨_,rfl,hm⟩
  unfold m_spec_Decimal_B1 at hm
  refine wp_seq<|wp_seq<|wp_rs rfl<|RQ.y rfl (Y.move (v:=.int .i64 i84) s4_1)<|RQ.y rfl (Y.binI (v:=.bool (i84 != 0)) rfl rfl rfl)<|RQ.nil<|then_n ?_
  rcases bcases (i84 != 0) with c86|c86
  ·replace hm:=cF c86 hm
   refine cond_f rfl (vb rfl c86)<|wp_exit ?_
   exact (then_x (then_x (hit_x ⟨_,rfl,⟨xs83,(uxs83),s0_1,s3_1,Guxs83,T,(by rw [hK1] at hm; exact hm)⟩⟩)))
  replace hm:=cT c86 hm
  refine cond_t rfl (vb rfl c86)<|wp_skip<|then_n<|wp_block<|wp_seq<|wp_rs rfl<|RQ.y rfl (Y.move (v:=.int .i64 i84) s4_1)<|RQ.y rfl (Y.rem rfl rfl (by decide))<|RQ.y rfl (Y.assign (v:=.int .i64 (i84.tmod 10)) rfl)<|RQ.nil<|then_n<|wp_seq<|wp_seq<|wp_rs rfl<|RQ.y rfl (Y.move (v:=.int .i64 (i84.tmod 10)) rfl)<|RQ.y rfl (Y.binI (v:=.bool (decide ((i84.tmod 10) < 0))) rfl rfl rfl)<|RQ.nil<|then_n ?_
  rcases bcases (decide ((i84.tmod 10) < 0)) with c87|c87
  ·replace hm:=cF c87 hm
   have pc87:=of_decide_eq_false c87
   refine cond_f rfl (vb rfl c87)<|wp_skip<|then_n<|wp_seq<|wp_rl rfl<|RL.y rfl (Y.move (v:=uxs83) s3_1)<|RL.y rfl (Y.move (v:=.int .i64 (i84.tmod 10)) rfl) ?_
   obtain ⟨s88,ks88,hm⟩:=bnd hm
   replace ks88:=ck_some ks88
   refine RL.y rfl (Y.binI (v:=.int .i64 s88) rfl rfl (by rw [binI_add ks88.2,ks88.1]))<|RL.y rfl (Y.toU8 (n:=s88) rfl (by kernel_rfl) (by kernel_rfl)) ?_
   refine RL.bslice (e:=5) (cells:=#[.int .u8 (u8w s88)]) rfl (pm1 rfl) (by kernel_rfl) (fun w89 B90 hb91 szw89=>?_)
   have ZB90:w.heap.size≤w85.heap.size:=T.size
   have Do92_oxs83:=Dj.new (v:=.slice (some ⟨w85.heap.size,0,none⟩) 1 1) litGe (OwF.hi Guxs83)
   have Guxs83:=OwF.below Guxs83 hb91
   have T:=Tt T hb91
   have G93:=OwF.lit (enc:=encU) (sz:=1) (xs:=[(u8w s88)]) B90 ZB90 rfl rfl rfl rfl
   obtain ⟨_,m95,hm⟩:=bnd hm
   have hk96:=mustP_some m95
   refine RL.append fU app_uint8 rfl rfl rfl Guxs83 (OwF.arg fU G93) T.size hk96 (fun v97 w98 G99 hgr100 hbl101 hnb102=>?_)
   have szw98:=hbl101.size
   have T:=T.trans hbl101
   refine RL.y rfl (Y.assign (v:=v97) rfl)<|RL.nil<|then_n<|wp_rs rfl<|RQ.y rfl (Y.move (v:=.int .i64 i84) s4_1) ?_
   obtain ⟨s104,ks104,hm⟩:=bnd hm
   replace ks104:=ck_some ks104
   refine RQ.y rfl (Y.quo rfl rfl (by decide) ks104.2)<|RQ.y rfl (Y.assign (v:=.int .i64 (i84.tdiv 10)) rfl)<|RQ.nil ?_
   exact (blk_n (then_n ⟨g,_,Nat.lt_succ_self _,rfl,⟨(xs83 ++ [(u8w s88)]),(i84.tdiv 10),(v97),s0_1,rfl,G99,rfl,T,(by rw [← hrec1]; exact hm)⟩⟩))
  replace hm:=cT c87 hm
  have pc87:=of_decide_eq_true c87
  refine cond_t rfl (vb rfl c87)<|wp_rs rfl<|RQ.y rfl (Y.move (v:=.int .i64 (i84.tmod 10)) rfl) ?_
  obtain ⟨s105,k106,hm⟩:=bnd hm
  refine RQ.y rfl (Y.neg (n:=(i84.tmod 10)) (m:=s105) rfl k106)<|RQ.y rfl (Y.assign (v:=.int .i64 s105) rfl)<|RQ.nil<|then_n<|wp_seq<|wp_rl rfl<|RL.y rfl (Y.move (v:=uxs83) s3_1)<|RL.y rfl (Y.move (v:=.int .i64 s105) rfl) ?_
  obtain ⟨s107,ks107,hm⟩:=bnd hm
  replace ks107:=ck_some ks107
  refine RL.y rfl (Y.binI (v:=.int .i64 s107) rfl rfl (by rw [binI_add ks107.2,ks107.1]))<|RL.y rfl (Y.toU8 (n:=s107) rfl (by kernel_rfl) (by kernel_rfl)) ?_
  refine RL.bslice (e:=5) (cells:=#[.int .u8 (u8w s107)]) rfl (pm1 rfl) (by kernel_rfl) (fun w108 B109 hb110 szw108=>?_)
  have ZB109:w.heap.size≤w85.heap.size:=T.size
  have Do111_oxs83:=Dj.new (v:=.slice (some ⟨w85.heap.size,0,none⟩) 1 1) litGe (OwF.hi Guxs83)
  have Guxs83:=OwF.below Guxs83 hb110
  have T:=Tt T hb110
  have G112:=OwF.lit (enc:=encU) (sz:=1) (xs:=[(u8w s107)]) B109 ZB109 rfl rfl rfl rfl
  obtain ⟨_,m114,hm⟩:=bnd hm
  have hk115:=mustP_some m114
  refine RL.append fU app_uint8 rfl rfl rfl Guxs83 (OwF.arg fU G112) T.size hk115 (fun v116 w117 G118 hgr119 hbl120 hnb121=>?_)
  have szw117:=hbl120.size
  have T:=T.trans hbl120
  refine RL.y rfl (Y.assign (v:=v116) rfl)<|RL.nil<|then_n<|wp_rs rfl<|RQ.y rfl (Y.move (v:=.int .i64 i84) s4_1) ?_
  obtain ⟨s123,ks123,hm⟩:=bnd hm
  replace ks123:=ck_some ks123
  refine RQ.y rfl (Y.quo rfl rfl (by decide) ks123.2)<|RQ.y rfl (Y.assign (v:=.int .i64 (i84.tdiv 10)) rfl)<|RQ.nil ?_
  exact (blk_n (then_n ⟨g,_,Nat.lt_succ_self _,rfl,⟨(xs83 ++ [(u8w s107)]),(i84.tdiv 10),(v116),s0_1,rfl,G118,rfl,T,(by rw [← hrec1]; exact hm)⟩⟩))
def m_spec_l01Operators  : Option (List ByteArray):=
  some ([(ByteArray.mk #[43]),(ByteArray.mk #[45]),(ByteArray.mk #[42]),(ByteArray.mk #[47]),(ByteArray.mk #[60]),(ByteArray.mk #[61])])
set_option maxHeartbeats 2000000 in
theorem c_m_spec_l01Operators  (r:List ByteArray) (hm:m_spec_l01Operators  = some r)  (w:World)  :
    Calls Tryz.prog 94 #[] w fun e w'=>(∃(v0:Value),e=.returned (v0)∧OwF 9 encS 1 w' w.heap.size v0 r)∧Below w.heap.size w w':=by
  have T:=Below.refl w.heap.size w
  unfold m_spec_l01Operators at hm
  refine enter 2 Tryz.func94 rfl rfl rfl ?_
  intro f hf
  refine wp_seq<|wp_rs rfl<|RQ.y rfl (Y.assign (v:=.slice none 0 0) rfl)<|RQ.nil<|then_n<|wp_seq<|wp_rl rfl ?_
  refine RL.bslice (e:=9) (cells:=#[.string (ByteArray.mk #[43]),.string (ByteArray.mk #[45]),.string (ByteArray.mk #[42]),.string (ByteArray.mk #[47]),.string (ByteArray.mk #[60]),.string (ByteArray.mk #[61])]) rfl (pm6 rfl rfl rfl rfl rfl rfl) (by kernel_rfl) (fun w1 B2 hb3 szw1=>?_)
  have ZB2:w.heap.size≤w.heap.size:=T.size
  have T:=Tt T hb3
  have G5:=OwF.lit (enc:=encS) (sz:=1) (xs:=[(ByteArray.mk #[43]),(ByteArray.mk #[45]),(ByteArray.mk #[42]),(ByteArray.mk #[47]),(ByteArray.mk #[60]),(ByteArray.mk #[61])]) B2 ZB2 rfl rfl rfl rfl
  refine RL.y rfl (Y.assign (v:=.slice (some ⟨w.heap.size,0,none⟩) 6 6) rfl)<|RL.nil<|then_n<|wp_ret ?_
  obtain rfl:=sj hm
  exact (ret1 rfl rfl rfl ⟨⟨_,rfl,G5⟩,T⟩)
def m_spec_OperatorText (d0:Int):Option ByteArray:=
  (bif (inR d0 1 6) then ((m_spec_l01Operators ).bind fun y4=>((ck (d0 - 1)).bind fun s11=>((getI y4 s11).bind fun x14=>some x14))) else some (ByteArray.mk #[]))
set_option maxHeartbeats 2000000 in
theorem c_m_spec_OperatorText (d0:Int) (r:ByteArray) (hm:m_spec_OperatorText d0=some r)  (w:World)  :
    Calls Tryz.prog 62 #[.int .i64 d0] w fun e w'=>e=.returned (.string r)∧Below w.heap.size w w':=by
  have T:=Below.refl w.heap.size w
  unfold m_spec_OperatorText at hm
  refine enter 11 Tryz.func62 rfl rfl rfl ?_
  intro f hf
  have s0:f 0=.int .i64 d0:=hf 0 _ rfl
  refine wp_seq<|wp_rs rfl<|RQ.y rfl (Y.assign (v:=.string (ByteArray.mk #[])) rfl)<|RQ.nil<|then_n<|wp_seq<|wp_seq<|wp_rb rfl<|RQ.y rfl (Y.move (v:=.int .i64 d0) s0)<|RQ.call rfl (am3 rfl rfl rfl) (by kernel_rfl) (v:=.bool (inR d0 1 6)) (bel (K:=fun _=>True) fun w' hb'=>(callB (spec_l00In d0 1 6 w')))<|RQ.y rfl (Y.not (b':=(!(inR d0 1 6))) rfl rfl)<|RQ.nil ?_
  intro w1 hb2
  have szw1:=hb2.size
  have T:=Tt T hb2
  refine then_n ?_
  rcases bcases (inR d0 1 6) with c3|c3
  ·replace hm:=cF c3 hm
   refine cond_t rfl (vbn rfl c3 rfl)<|wp_seq<|wp_rs rfl<|RQ.y rfl (Y.assign (v:=.string (ByteArray.mk #[])) rfl)<|RQ.nil<|then_n<|wp_ret ?_
   obtain rfl:=sj hm
   exact (then_r (ret1 rfl rfl rfl ⟨rfl,T⟩))
  replace hm:=cT c3 hm
  refine cond_f rfl (vbn rfl c3 rfl)<|wp_skip<|then_n<|wp_seq<|wp_rl rfl ?_
  obtain ⟨y4,e5,hm⟩:=bnd hm
  refine RL.call rfl (am0) (by kernel_rfl) ((c_m_spec_l01Operators  _ e5  _ ).mono ?_)
  rintro _ w9 ⟨⟨v6,rfl,G7⟩,hb10⟩
  refine ⟨_,rfl,?_⟩
  have szw9:=hb10.size
  have T0w9:=T.size
  have T:=Tt T hb10
  replace G7:=OwF.mono G7 T0w9
  refine RL.y rfl (Y.move (v:=.int .i64 d0) s0) ?_
  obtain ⟨s11,ks11,hm⟩:=bnd hm
  replace ks11:=ck_some ks11
  refine RL.y rfl (Y.binI (v:=.int .i64 s11) rfl rfl (by rw [binI_sub ks11.2,ks11.1])) ?_
  obtain ⟨A12,c13,rfl⟩:=OwF.form G7
  have qbA12:=OwF.bound G7
  obtain ⟨x14,hx16,hm⟩:=bnd hm
  obtain ⟨k15,hk17,hl18,hx16⟩:=getI_some hx16
  obtain ⟨b19,rfl⟩:=OwF.addr0 G7 (by omega)
  refine RL.y rfl (Y.indexAddr (m:=k15) (sz:=1) rfl rfl hk17 hl18 (by kernel_rfl))<|RL.y rfl (Y.load (v:=.string x14) rfl (by kernel_rfl) (eqC (OwF.cell fS G7 hx16 (j:=0) rfl)))<|RL.y rfl (Y.assign (v:=.string x14) rfl)<|RL.nil<|then_n<|wp_ret ?_
  obtain rfl:=sj hm
  exact (ret1 rfl rfl rfl ⟨rfl,T⟩)
def m_spec_l11Numbers_A1 (z1:ByteArray):Option ByteArray:=
  some z1
def m_spec_l11Numbers_B1 (d0:List Int) (rec1:ByteArray→Int→Option ByteArray) (K1:ByteArray→Option ByteArray) (z3:ByteArray) (i4:Int):Option ByteArray:=
  (bif (decide (i4 < (d0.length:Int))) then (bif (decide (i4 > 0)) then ((catS z3 (ByteArray.mk #[44])).bind fun s23=>((getI d0 i4).bind fun x25=>((m_spec_Decimal x25).bind fun y34=>((catS s23 y34).bind fun s36=>(rec1 s36 (i4+1)))))) else ((getI d0 i4).bind fun x8=>((m_spec_Decimal x8).bind fun y17=>((catS z3 y17).bind fun s19=>(rec1 s19 (i4+1)))))) else (K1 z3))
def m_spec_l11Numbers_L1 (d0:List Int) (K1:ByteArray→Option ByteArray):Nat→ByteArray→Int→Option ByteArray
  |0,_,_=>none
  |g+1,z3,i4=>m_spec_l11Numbers_B1 d0 (m_spec_l11Numbers_L1 d0 K1 g) K1 z3 i4
def m_spec_l11Numbers (d0:List Int):Option ByteArray:=
  (m_spec_l11Numbers_L1 d0 m_spec_l11Numbers_A1 (d0.length+1) (ByteArray.mk #[]) 0)
set_option maxHeartbeats 2000000 in
theorem c_m_spec_l11Numbers (d0:List Int) (r:ByteArray) (hm:m_spec_l11Numbers d0=some r) (v0:Value) (w:World) (hv0:Sl intRd 1 w v0 d0) :
    Calls Tryz.prog 63 #[v0] w fun e w'=>e=.returned (.string r)∧Below w.heap.size w w':=by
  obtain ⟨Aa0,na0,ca0,rfl,ha0,ra0⟩:=hv0
  have ea0:=ha0.len; subst ea0
  have qa0:=len_le ra0
  have T:=Below.refl w.heap.size w
  unfold m_spec_l11Numbers at hm
  refine enter 23 Tryz.func63 rfl rfl rfl ?_
  intro f hf
  have s0:f 0=.slice Aa0 d0.length ca0:=hf 0 _ rfl
  refine wp_seq<|wp_rs rfl<|RQ.y rfl (Y.assign (v:=.string (ByteArray.mk #[])) rfl)<|RQ.nil<|then_n<|wp_seq<|wp_rs rfl<|RQ.y rfl (Y.assign (v:=.string (ByteArray.mk #[])) rfl)<|RQ.nil<|then_n<|wp_seq<|wp_seq<|wp_rs rfl<|RQ.y rfl (Y.assign (v:=.int .i64 0) rfl)<|RQ.nil<|then_n<|wp_block ?_
  obtain ⟨K1,hK1,hm⟩ :∃K,K=m_spec_l11Numbers_A1∧m_spec_l11Numbers_L1 d0 K (d0.length+1) (ByteArray.mk #[]) 0=some r:=⟨_,rfl,hm⟩
  refine wp_loopX (fun g f w'=>∃(z3:ByteArray) (i4:Int),f 0=.slice Aa0 d0.length ca0∧f 3=.string z3∧f 4=.int .i64 i4∧0≤i4∧Below w.heap.size w w'∧m_spec_l11Numbers_L1 d0 K1 g z3 i4=some r) 0 (fun f w'=>∃(z1:ByteArray),f 3=.string z1∧Below w.heap.size w w'∧m_spec_l11Numbers_A1 z1=some r) (d0.length+1) ⟨(ByteArray.mk #[]),0,s0,rfl,rfl,(by omega),T,hm⟩ ?_ ?_
  ·rintro f w2 ⟨z1,s3_1x,T,hm⟩
   unfold m_spec_l11Numbers_A1 at hm
   refine blk_hit (then_n ?_)
   refine wp_seq<|wp_rs rfl<|RQ.y rfl (Y.move (v:=.string z1) s3_1x)<|RQ.y rfl (Y.assign (v:=.string z1) rfl)<|RQ.nil<|then_n<|wp_ret ?_
   obtain rfl:=sj hm
   exact (ret1 rfl rfl rfl ⟨rfl,T⟩)
  rintro g f w5 ⟨z3,i4,s0_1,s3_1,s4_1,nn4_1,T,hm⟩
  rcases g with _|g
  ·simp only [m_spec_l11Numbers_L1] at hm; cases hm
  obtain ⟨rec1,hrec1,hm⟩ :∃z,z=m_spec_l11Numbers_L1 d0 K1 g∧m_spec_l11Numbers_B1 d0 z K1 z3 i4=some r:=⟨_,rfl,hm⟩
  unfold m_spec_l11Numbers_B1 at hm
  refine wp_seq<|wp_seq<|wp_rs rfl<|RQ.y rfl (Y.move (v:=.int .i64 i4) s4_1)<|RQ.y rfl (Y.move (v:=.slice Aa0 d0.length ca0) s0_1)<|RQ.y rfl (Y.len (by kernel_rfl) rfl)<|RQ.y rfl (Y.binI (v:=.bool (decide (i4 < (d0.length:Int)))) rfl rfl rfl)<|RQ.nil<|then_n ?_
  rcases bcases (decide (i4 < (d0.length:Int))) with c6|c6
  ·replace hm:=cF c6 hm
   have pc6:=of_decide_eq_false c6
   refine cond_f rfl (vb rfl c6)<|wp_exit ?_
   exact (then_x (then_x (hit_x ⟨_,rfl,⟨z3,s3_1,T,(by rw [hK1] at hm; exact hm)⟩⟩)))
  replace hm:=cT c6 hm
  have pc6:=of_decide_eq_true c6
  refine cond_t rfl (vb rfl c6)<|wp_skip<|then_n<|wp_seq<|wp_block<|wp_seq<|wp_seq<|wp_rs rfl<|RQ.y rfl (Y.move (v:=.int .i64 i4) s4_1)<|RQ.y rfl (Y.binI (v:=.bool (decide (i4 > 0))) rfl rfl rfl)<|RQ.nil<|then_n ?_
  rcases bcases (decide (i4 > 0)) with c7|c7
  ·replace hm:=cF c7 hm
   have pc7:=of_decide_eq_false c7
   refine cond_f rfl (vb rfl c7)<|wp_skip<|then_n<|wp_rb rfl<|RQ.y rfl (Y.move (v:=.string z3) s3_1)<|RQ.y rfl (Y.move (v:=.slice Aa0 d0.length ca0) s0_1)<|RQ.y rfl (Y.move (v:=.int .i64 i4) s4_1) ?_
   obtain ⟨x8,hx11,hm⟩:=bnd hm
   obtain ⟨k9,hk12,hl13,hx11⟩:=getI_some hx11
   obtain ⟨b15,o16,rfl,hbb15⟩:=ha0.addr (by omega)
   obtain ⟨cs10,hRcs10,hc14⟩:=ha0.el hx11
   have hScs10:=hRcs10
   obtain rfl:=hRcs10
   refine RQ.y rfl (Y.indexAddr (m:=k9) (sz:=1) rfl rfl hk12 hl13 (by kernel_rfl))<|RQ.y rfl (Y.load (v:=.int .i64 x8) rfl (by kernel_rfl) (beC (cellT T (hc14 0 _ rfl)))) ?_
   obtain ⟨y17,e18,hm⟩:=bnd hm
   refine RQ.call rfl (am1 rfl) (by kernel_rfl) (v:=.string y17) (bel (K:=fun _=>True) fun w' hb'=>(c_m_spec_Decimal x8 _ e18  w' )) ?_
   obtain ⟨s19,k20,hm⟩:=bnd hm
   refine RQ.y rfl (Y.catS (s:=s19) rfl rfl k20)<|RQ.y rfl (Y.assign (v:=.string s19) rfl)<|RQ.nil ?_
   intro w21 hb22
   have szw21:=hb22.size
   have T:=Tt T hb22
   refine blk_n (then_n ?_)
   refine wp_rs rfl<|RQ.y rfl (Y.move (v:=.int .i64 i4) s4_1)<|RQ.y rfl (Y.binI rfl rfl (binI_add (m:=i4) (by omega)))<|RQ.y rfl (Y.assign (v:=.int .i64 (i4+1)) rfl)<|RQ.nil ?_
   exact (then_n ⟨g,_,Nat.lt_succ_self _,rfl,⟨s19,(i4+1),s0_1,rfl,rfl,(by omega),T,(by rw [← hrec1]; exact hm)⟩⟩)
  replace hm:=cT c7 hm
  have pc7:=of_decide_eq_true c7
  refine cond_t rfl (vb rfl c7)<|wp_rs rfl<|RQ.y rfl (Y.move (v:=.string z3) s3_1) ?_
  obtain ⟨s23,k24,hm⟩:=bnd hm
  refine RQ.y rfl (Y.catS (s:=s23) rfl rfl k24)<|RQ.y rfl (Y.assign (v:=.string s23) rfl)<|RQ.nil<|then_n<|wp_rb rfl<|RQ.y rfl (Y.move (v:=.string s23) rfl)<|RQ.y rfl (Y.move (v:=.slice Aa0 d0.length ca0) s0_1)<|RQ.y rfl (Y.move (v:=.int .i64 i4) s4_1) ?_
  obtain ⟨x25,hx28,hm⟩:=bnd hm
  obtain ⟨k26,hk29,hl30,hx28⟩:=getI_some hx28
  obtain ⟨b32,o33,rfl,hbb32⟩:=ha0.addr (by omega)
  obtain ⟨cs27,hRcs27,hc31⟩:=ha0.el hx28
  have hScs27:=hRcs27
  obtain rfl:=hRcs27
  refine RQ.y rfl (Y.indexAddr (m:=k26) (sz:=1) rfl rfl hk29 hl30 (by kernel_rfl))<|RQ.y rfl (Y.load (v:=.int .i64 x25) rfl (by kernel_rfl) (beC (cellT T (hc31 0 _ rfl)))) ?_
  obtain ⟨y34,e35,hm⟩:=bnd hm
  refine RQ.call rfl (am1 rfl) (by kernel_rfl) (v:=.string y34) (bel (K:=fun _=>True) fun w' hb'=>(c_m_spec_Decimal x25 _ e35  w' )) ?_
  obtain ⟨s36,k37,hm⟩:=bnd hm
  refine RQ.y rfl (Y.catS (s:=s36) rfl rfl k37)<|RQ.y rfl (Y.assign (v:=.string s36) rfl)<|RQ.nil ?_
  intro w38 hb39
  have szw38:=hb39.size
  have T:=Tt T hb39
  refine blk_n (then_n ?_)
  refine wp_rs rfl<|RQ.y rfl (Y.move (v:=.int .i64 i4) s4_1)<|RQ.y rfl (Y.binI rfl rfl (binI_add (m:=i4) (by omega)))<|RQ.y rfl (Y.assign (v:=.int .i64 (i4+1)) rfl)<|RQ.nil ?_
  exact (then_n ⟨g,_,Nat.lt_succ_self _,rfl,⟨s36,(i4+1),s0_1,rfl,rfl,(by omega),T,(by rw [← hrec1]; exact hm)⟩⟩)
end
section
open Go.RowKit Go.Sort
theorem ba_ext {a b:ByteArray} (h:a.data.toList=b.data.toList):a=b:=by
  cases a; cases b
  simp only [ByteArray.mk.injEq] at *
  exact Array.ext' h
theorem ba_app (a b:ByteArray):(a ++ b).data.toList=a.data.toList ++ b.data.toList:=by rw [ByteArray.data_append,Array.toList_append]
theorem ba_size (a:ByteArray):a.size=a.data.toList.length:=rfl
theorem ba_app_size (a b:ByteArray):(a ++ b).size=a.size+b.size:=by simp
theorem catS_ok {a b:ByteArray} (h:a.size+b.size≤9223372036854775807):catS a b=some (a ++ b):=if_pos h
theorem wrS_ok {a b:ByteArray} (h:a.size+b.size≤140737488355328):wrS a b=some (a ++ b):=if_pos h
theorem ofNums_nums (s:ByteArray):ofNums (nums s)=s:=by
  refine ba_ext ?_
  unfold ofNums nums
  rw [strOfNums_data,List.map_map]
  have:(fun n:Int=>UInt8.ofNat n.toNat) ∘ (fun b:UInt8=>(b.toNat:Int))=id:=by
    funext b
    simp
  rw [this,List.map_id]
theorem nums_app (a b:ByteArray):nums (a ++ b)=nums a ++ nums b:=by
  unfold nums
  rw [ba_app,List.map_append]
/-- The digits of a number, the last one first. -/
def revDig (u:Nat):List Int:=if h:u=0 then [] else (48+(u % 10:Nat):Int) :: revDig (u / 10)
termination_by u
decreasing_by omega
theorem revDig_zero:revDig 0=[]:=by rw [revDig,dif_pos rfl]
theorem revDig_pos {u:Nat} (h:u ≠ 0):revDig u=(48+(u % 10:Nat):Int) :: revDig (u / 10):=by rw [revDig,dif_neg h]
theorem revDig_len :∀(k u:Nat),u < 10 ^ k→(revDig u).length≤k
  |k,0,_=>by rw [revDig_zero]; exact Nat.zero_le _
  |0,u+1,h=>by simp at h
  |k+1,u+1,h=>by
    rw [revDig_pos (by omega),List.length_cons]
    have:=revDig_len k ((u+1) / 10) (by rw [Nat.pow_succ] at h; omega)
    omega
def byteN (n:Int):UInt8:=UInt8.ofNat n.toNat
theorem byteN_dig (d:Nat):byteN (48+(d:Int))=UInt8.ofNat (48+d):=by
  unfold byteN
  congr 1
theorem revDig_dec :∀(u:Nat),u ≠ 0→(revDig u).reverse.map byteN=Lib.decDigits u:=by
  intro u
  induction u using Nat.strongRecOn with
  |ind u ih=>
    intro h
    rw [revDig_pos h,List.reverse_cons,List.map_append,Lib.decDigits]
    by_cases h1:u < 10
    · rw [dif_pos h1,show u / 10=0 by omega,revDig_zero,show u % 10=u by omega,List.map_cons,byteN_dig]
      rfl
    · rw [dif_neg h1,ih (u / 10) (by omega) (by omega),List.map_cons,byteN_dig]
      rfl
theorem u8w_dig {n:Nat} (h:n < 10):u8w (48+(n:Int))=48+(n:Int):=by
  have h2:n=0 ∨ n=1 ∨ n=2 ∨ n=3 ∨ n=4 ∨ n=5 ∨ n=6 ∨ n=7 ∨ n=8 ∨ n=9:=by omega
  rcases h2 with rfl|rfl|rfl|rfl|rfl|rfl|rfl|rfl|rfl|rfl <;> rfl
theorem negI_ok {n:Int} (h:-9223372036854775807≤n∧n≤9223372036854775807):negI n=some (-n):=if_pos h
theorem getI_ok {α:Type} {xs:List α} {i:Nat} {x:α} (h:xs[i]? = some x):getI xs (i:Int)=some x:=by simp [getI,h]
theorem dec_L1 (K:List Int→Option ByteArray) :∀(g:Nat) (xs:List Int) (m:Int),-9223372036854775808≤m→m≤9223372036854775807→m.natAbs < 10 ^ g→xs.length+g≤1000→
    m_spec_Decimal_L1 K (g+1) xs m=K (xs ++ revDig m.natAbs):=by
  intro g
  induction g with
  |zero=>
    intro xs m h0 h1 h2 h3
    obtain rfl:m=0:=by simp at h2; omega
    simp -implicitDefEqProofs only [m_spec_Decimal_L1,m_spec_Decimal_B1,Int.natAbs_zero,revDig_zero,List.append_nil,bne_self_eq_false,cond_false]
  |succ g ih=>
    intro xs m h0 h1 h2 h3
    by_cases hm:m=0
    · subst hm
      simp -implicitDefEqProofs only [m_spec_Decimal_L1,m_spec_Decimal_B1,Int.natAbs_zero,revDig_zero,List.append_nil,bne_self_eq_false,cond_false]
    · have hne:(m != 0)=true:=by simpa using hm
      have ht:(m.tmod 10).natAbs=m.natAbs % 10:=by rw [Int.natAbs_tmod]; rfl
      have hd:(m.tdiv 10).natAbs=m.natAbs / 10:=by rw [Int.natAbs_tdiv]; rfl
      have hq:m.natAbs % 10 < 10:=Nat.mod_lt _ (by decide)
      have hlt:(m.tdiv 10).natAbs < 10 ^ g:=by rw [hd]; rw [Nat.pow_succ] at h2; omega
      have hck:ck (m.tdiv 10)=some (m.tdiv 10):=ck_ok (by omega)
      have hdig:revDig m.natAbs=(48+(m.natAbs % 10:Nat):Int) :: revDig (m.tdiv 10).natAbs:=by rw [hd]; exact revDig_pos (by omega)
      rw [m_spec_Decimal_L1,m_spec_Decimal_B1,hne,cond_true]
      by_cases hs:m.tmod 10 < 0
      · have hv:-(m.tmod 10)=((m.natAbs % 10:Nat):Int):=by omega
        rw [decide_eq_true hs,cond_true,negI_ok (by omega),Option.bind_some,hv,ck_ok (by omega),Option.bind_some,mustP_ok (by simp; omega),Option.bind_some,hck,Option.bind_some,u8w_dig hq,
          ih _ _ (by omega) (by omega) hlt (by simp; omega),hdig]
        simp
      · have hv:m.tmod 10=((m.natAbs % 10:Nat):Int):=by omega
        rw [decide_eq_false hs,cond_false,hv,ck_ok (by omega),Option.bind_some,mustP_ok (by simp; omega),Option.bind_some,hck,Option.bind_some,u8w_dig hq,
          ih _ _ (by omega) (by omega) hlt (by simp; omega),hdig]
        simp
theorem dec_L2 (xs:List Int) (hx:xs.length≤1000) :∀(k g:Nat) (acc:List Int),k≤xs.length→k < g→acc.length+k≤2000→
    m_spec_Decimal_L2 xs m_spec_Decimal_A2 g acc ((k:Int) - 1)=some (ofNums (acc ++ (xs.take k).reverse)):=by
  intro k
  induction k with
  |zero=>
    intro g acc _ hg _
    obtain ⟨g,rfl⟩ :∃g',g=g'+1:=⟨g - 1,by omega⟩
    rw [m_spec_Decimal_L2,m_spec_Decimal_B2,show decide (((0:Nat):Int) - 1 ≥ 0)=false by decide,cond_false,m_spec_Decimal_A2]
    simp
  |succ k ih=>
    intro g acc hk hg hl
    obtain ⟨g,rfl⟩ :∃g',g=g'+1:=⟨g - 1,by omega⟩
    have hlt:k < xs.length:=by omega
    have he:((k+1:Nat):Int) - 1=(k:Int):=by omega
    have hd:decide ((k:Int) ≥ 0)=true:=by simp
    rw [he,m_spec_Decimal_L2,m_spec_Decimal_B2,hd,cond_true,getI_lt hlt,Option.bind_some,mustP_ok (by simp; omega),Option.bind_some,ck_ok (by omega),Option.bind_some,ih g _ (by omega) (by omega) (by simp; omega)]
    rw [List.take_succ_eq_append_getElem hlt,List.reverse_append,List.append_assoc]
    rfl
theorem p_sDecimal (n:Int) (h0:-9223372036854775808≤n) (h1:n≤9223372036854775807):m_spec_Decimal n=some (itoaB n):=by
  have hb:n.natAbs < 10 ^ 20:=by omega
  have hl:=revDig_len 20 _ hb
  unfold m_spec_Decimal
  rw [dec_L1 _ 20 [] n h0 h1 hb (by simp),List.nil_append,m_spec_Decimal_A1]
  have fin :∀xs:List Int,xs.length≤1000→xs.length < 29→m_spec_Decimal_Aj2 xs=some (ofNums xs.reverse):=fun xs hx h2=>by
    rw [m_spec_Decimal_Aj2,ck_ok (by omega),Option.bind_some,dec_L2 xs hx xs.length 30 [] (Nat.le_refl _) (by omega) (by simp; omega),List.nil_append,List.take_length]
  have heq :∀xs:List Int,xs.map byteN=Lib.itoa n→some (ofNums xs)=some (itoaB n):=fun xs hx=>by
    congr 1
    refine ba_ext ?_
    unfold ofNums itoaB
    rw [strOfNums_data]
    exact hx
  by_cases hz:n=0
  · subst hz
    rw [show ((0:Int)==0)=true from rfl,cond_true,mustP_ok (by simp [revDig_zero]),Option.bind_some,m_spec_Decimal_Aj1,show decide ((0:Int) < 0)=false by decide,cond_false,fin _ (by simp [revDig_zero]) (by simp [revDig_zero])]
    refine heq _ ?_
    simp [revDig_zero,byteN,Lib.itoa,Lib.decDigits]
  · rw [show (n==0)=false by simpa using hz,cond_false,m_spec_Decimal_Aj1]
    by_cases hs:n < 0
    · rw [decide_eq_true hs,cond_true,mustP_ok (by simp; omega),Option.bind_some,fin _ (by simp; omega) (by simp; omega)]
      refine heq _ ?_
      rw [List.reverse_append,List.map_append,revDig_dec _ (by omega),Lib.itoa,if_pos hs]
      rfl
    · rw [decide_eq_false hs,cond_false,fin _ (by omega) (by omega)]
      refine heq _ ?_
      rw [revDig_dec _ (by omega),Lib.itoa,if_neg hs]
      congr 1
      omega
theorem decM_ok {n:Int} (h0:-9223372036854775808≤n) (h1:n≤9223372036854775807):decM n=some (itoaB n):=if_pos ⟨h0,h1⟩
theorem itoaB_size {n:Int} (h0:-9223372036854775808≤n) (h1:n≤9223372036854775807):(itoaB n).size≤21:=by
  have:=Lib.itoa_length_le n h0 h1
  simpa [itoaB,ByteArray.size] using this
end
section
open Go.RowKit
theorem portsOf_kind {k f:Int} (h:0 < portsOf k f):1≤k∧k≤12:=by
  unfold portsOf at h
  split at h
  · omega
  · split at h
    · omega
    · split at h
      · omega
      · split at h
        · omega
        · split at h <;> omega
structure Good (xs:List DAgent):Prop where
  one:1≤xs.length
  len:xs.length≤600
  ok :∀(i:Nat) (x:DAgent),xs[i]? = some x→agentOk x=true
  root :∀(i:Nat) (x:DAgent),xs[i]? = some x→(x.kind=1↔i=0)
  ports:PortsOk xs
theorem good {d:DNet} (h:validNet d=true):Good d.agents:=by
  obtain ⟨⟨h1,h2,h3⟩,h4⟩:=validNet_iff.1 h
  exact ⟨h1,h2,fun i x hx=>(h3 i x hx).1,fun i x hx=>by have:=(h3 i x hx).2; simpa using this,h4⟩
theorem agentOk_pos {x:DAgent} (h:agentOk x=true):0 < x.ports.length∧1≤x.kind∧x.kind≤12:=by
  unfold agentOk at h
  simp only [Bool.and_eq_true,decide_eq_true_eq] at h
  have:=portsOf_kind h.1.1.1
  omega
theorem Good.pos {xs:List DAgent} (G:Good xs) {i:Nat} {x:DAgent} (hx:xs[i]? = some x):0 < x.ports.length:=(agentOk_pos (G.ok i x hx)).1
def before (p q:DPort):Bool:=decide (p.agent < q.agent)||(p.agent==q.agent && decide (p.slot < q.slot))
end
section
open Go.RowKit
set_option maxRecDepth 100000
def m_spec_l11AgentText_A1 (z14:ByteArray):Option ByteArray:=
  some z14
def m_spec_l11AgentText_B1 (d0:DAgent) (rec1:ByteArray→Int→Option ByteArray) (K1:ByteArray→Option ByteArray) (z16:ByteArray) (i17:Int):Option ByteArray:=
  (bif (decide (i17 < (d0.ports.length:Int))) then ((getI d0.ports i17).bind fun x20=>((m_spec_Decimal x20.agent).bind fun y29=>((catS (ByteArray.mk #[32]) y29).bind fun s31=>((catS s31 (ByteArray.mk #[46])).bind fun s33=>((getI d0.ports i17).bind fun x35=>((m_spec_Decimal x35.slot).bind fun y42=>((catS s33 y42).bind fun s44=>((catS z16 s44).bind fun s46=>(rec1 s46 (i17+1)))))))))) else (K1 z16))
def m_spec_l11AgentText_L1 (d0:DAgent) (K1:ByteArray→Option ByteArray):Nat→ByteArray→Int→Option ByteArray
  |0,_,_=>none
  |g+1,z16,i17=>m_spec_l11AgentText_B1 d0 (m_spec_l11AgentText_L1 d0 K1 g) K1 z16 i17
def m_spec_l11AgentText_A2 (z59:ByteArray):Option ByteArray:=
  some z59
def m_spec_l11AgentText_B2 (d0:DAgent) (rec2:ByteArray→Int→Option ByteArray) (K2:ByteArray→Option ByteArray) (z61:ByteArray) (i62:Int):Option ByteArray:=
  (bif (decide (i62 < (d0.ports.length:Int))) then ((getI d0.ports i62).bind fun x65=>((m_spec_Decimal x65.agent).bind fun y74=>((catS (ByteArray.mk #[32]) y74).bind fun s76=>((catS s76 (ByteArray.mk #[46])).bind fun s78=>((getI d0.ports i62).bind fun x80=>((m_spec_Decimal x80.slot).bind fun y87=>((catS s78 y87).bind fun s89=>((catS z61 s89).bind fun s91=>(rec2 s91 (i62+1)))))))))) else (K2 z61))
def m_spec_l11AgentText_L2 (d0:DAgent) (K2:ByteArray→Option ByteArray):Nat→ByteArray→Int→Option ByteArray
  |0,_,_=>none
  |g+1,z61,i62=>m_spec_l11AgentText_B2 d0 (m_spec_l11AgentText_L2 d0 K2 g) K2 z61 i62
def m_spec_l11AgentText_A3 (z104:ByteArray):Option ByteArray:=
  some z104
def m_spec_l11AgentText_B3 (d0:DAgent) (rec3:ByteArray→Int→Option ByteArray) (K3:ByteArray→Option ByteArray) (z106:ByteArray) (i107:Int):Option ByteArray:=
  (bif (decide (i107 < (d0.ports.length:Int))) then ((getI d0.ports i107).bind fun x110=>((m_spec_Decimal x110.agent).bind fun y119=>((catS (ByteArray.mk #[32]) y119).bind fun s121=>((catS s121 (ByteArray.mk #[46])).bind fun s123=>((getI d0.ports i107).bind fun x125=>((m_spec_Decimal x125.slot).bind fun y132=>((catS s123 y132).bind fun s134=>((catS z106 s134).bind fun s136=>(rec3 s136 (i107+1)))))))))) else (K3 z106))
def m_spec_l11AgentText_L3 (d0:DAgent) (K3:ByteArray→Option ByteArray):Nat→ByteArray→Int→Option ByteArray
  |0,_,_=>none
  |g+1,z106,i107=>m_spec_l11AgentText_B3 d0 (m_spec_l11AgentText_L3 d0 K3 g) K3 z106 i107
def m_spec_l11AgentText_A4 (z155:ByteArray):Option ByteArray:=
  some z155
def m_spec_l11AgentText_B4 (d0:DAgent) (rec4:ByteArray→Int→Option ByteArray) (K4:ByteArray→Option ByteArray) (z157:ByteArray) (i158:Int):Option ByteArray:=
  (bif (decide (i158 < (d0.ports.length:Int))) then ((getI d0.ports i158).bind fun x161=>((m_spec_Decimal x161.agent).bind fun y170=>((catS (ByteArray.mk #[32]) y170).bind fun s172=>((catS s172 (ByteArray.mk #[46])).bind fun s174=>((getI d0.ports i158).bind fun x176=>((m_spec_Decimal x176.slot).bind fun y183=>((catS s174 y183).bind fun s185=>((catS z157 s185).bind fun s187=>(rec4 s187 (i158+1)))))))))) else (K4 z157))
def m_spec_l11AgentText_L4 (d0:DAgent) (K4:ByteArray→Option ByteArray):Nat→ByteArray→Int→Option ByteArray
  |0,_,_=>none
  |g+1,z157,i158=>m_spec_l11AgentText_B4 d0 (m_spec_l11AgentText_L4 d0 K4 g) K4 z157 i158
def m_spec_l11AgentText_A5 (z200:ByteArray):Option ByteArray:=
  some z200
def m_spec_l11AgentText_B5 (d0:DAgent) (rec5:ByteArray→Int→Option ByteArray) (K5:ByteArray→Option ByteArray) (z202:ByteArray) (i203:Int):Option ByteArray:=
  (bif (decide (i203 < (d0.ports.length:Int))) then ((getI d0.ports i203).bind fun x206=>((m_spec_Decimal x206.agent).bind fun y215=>((catS (ByteArray.mk #[32]) y215).bind fun s217=>((catS s217 (ByteArray.mk #[46])).bind fun s219=>((getI d0.ports i203).bind fun x221=>((m_spec_Decimal x221.slot).bind fun y228=>((catS s219 y228).bind fun s230=>((catS z202 s230).bind fun s232=>(rec5 s232 (i203+1)))))))))) else (K5 z202))
def m_spec_l11AgentText_L5 (d0:DAgent) (K5:ByteArray→Option ByteArray):Nat→ByteArray→Int→Option ByteArray
  |0,_,_=>none
  |g+1,z202,i203=>m_spec_l11AgentText_B5 d0 (m_spec_l11AgentText_L5 d0 K5 g) K5 z202 i203
def m_spec_l11AgentText_A6 (z245:ByteArray):Option ByteArray:=
  some z245
def m_spec_l11AgentText_B6 (d0:DAgent) (rec6:ByteArray→Int→Option ByteArray) (K6:ByteArray→Option ByteArray) (z247:ByteArray) (i248:Int):Option ByteArray:=
  (bif (decide (i248 < (d0.ports.length:Int))) then ((getI d0.ports i248).bind fun x251=>((m_spec_Decimal x251.agent).bind fun y260=>((catS (ByteArray.mk #[32]) y260).bind fun s262=>((catS s262 (ByteArray.mk #[46])).bind fun s264=>((getI d0.ports i248).bind fun x266=>((m_spec_Decimal x266.slot).bind fun y273=>((catS s264 y273).bind fun s275=>((catS z247 s275).bind fun s277=>(rec6 s277 (i248+1)))))))))) else (K6 z247))
def m_spec_l11AgentText_L6 (d0:DAgent) (K6:ByteArray→Option ByteArray):Nat→ByteArray→Int→Option ByteArray
  |0,_,_=>none
  |g+1,z247,i248=>m_spec_l11AgentText_B6 d0 (m_spec_l11AgentText_L6 d0 K6 g) K6 z247 i248
def m_spec_l11AgentText_Aj2 (d0:DAgent) (z5:ByteArray) (b7:Bool):Option ByteArray:=
  (bif b7 then ((m_spec_Decimal d0.value).bind fun y237=>((catS (ByteArray.mk #[61]) y237).bind fun s239=>((catS z5 s239).bind fun s241=>(m_spec_l11AgentText_L6 d0 m_spec_l11AgentText_A6 (d0.ports.length+1) s241 0)))) else (bif (d0.kind==7) then ((m_spec_OperatorText d0.value).bind fun y192=>((catS (ByteArray.mk #[61]) y192).bind fun s194=>((catS z5 s194).bind fun s196=>(m_spec_l11AgentText_L5 d0 m_spec_l11AgentText_A5 (d0.ports.length+1) s196 0)))) else (bif (d0.kind==8) then ((m_spec_OperatorText d0.value).bind fun y141=>((catS (ByteArray.mk #[61]) y141).bind fun s143=>((catS s143 (ByteArray.mk #[44])).bind fun s145=>((m_spec_l11Numbers d0.data).bind fun y147=>((catS s145 y147).bind fun s149=>((catS z5 s149).bind fun s151=>(m_spec_l11AgentText_L4 d0 m_spec_l11AgentText_A4 (d0.ports.length+1) s151 0))))))) else (bif (d0.kind==10) then ((m_spec_l11Numbers d0.data).bind fun y96=>((catS (ByteArray.mk #[61]) y96).bind fun s98=>((catS z5 s98).bind fun s100=>(m_spec_l11AgentText_L3 d0 m_spec_l11AgentText_A3 (d0.ports.length+1) s100 0)))) else (bif (d0.kind==11) then ((m_spec_l11Numbers d0.data).bind fun y51=>((catS (ByteArray.mk #[61]) y51).bind fun s53=>((catS z5 s53).bind fun s55=>(m_spec_l11AgentText_L2 d0 m_spec_l11AgentText_A2 (d0.ports.length+1) s55 0)))) else (m_spec_l11AgentText_L1 d0 m_spec_l11AgentText_A1 (d0.ports.length+1) z5 0))))))
def m_spec_l11AgentText_Aj1 (d0:DAgent) (z5:ByteArray):Option ByteArray:=
  (bif (d0.kind==6) then (m_spec_l11AgentText_Aj2 d0 z5 (d0.kind==6)) else (bif (d0.kind==9) then (m_spec_l11AgentText_Aj2 d0 z5 (d0.kind==9)) else (m_spec_l11AgentText_Aj2 d0 z5 (d0.kind==12))))
def m_spec_l11AgentText (d0:DAgent):Option ByteArray:=
  (bif (hasLevel d0.kind) then ((m_spec_Decimal d0.level).bind fun y287=>((catS (ByteArray.mk #[47]) y287).bind fun s289=>((catS (kindName d0.kind) s289).bind fun s291=>(m_spec_l11AgentText_Aj1 d0 s291)))) else (m_spec_l11AgentText_Aj1 d0 (kindName d0.kind)))
set_option maxHeartbeats 2000000 in
theorem c_m_spec_l11AgentText (d0:DAgent) (r:ByteArray) (hm:m_spec_l11AgentText d0=some r) (v0:Value) (w:World) (hv0:Pt agentRd w v0 d0) :
    Calls Tryz.prog 30 #[v0] w fun e w'=>e=.returned (.string r)∧Below w.heap.size w w':=by
  obtain ⟨ba0,oa0,csa0,rfl,hba0,hRa0,hca0⟩:=hv0
  have hSa0:=hRa0
  obtain ⟨A1,n1,c1,A2,n2,c2,rfl,⟨h1,r1⟩,⟨h2,r2⟩⟩:=hRa0
  have e1:=h1.len; subst e1
  have q1:=len_le r1
  have e2:=h2.len; subst e2
  have q2:=len_le r2
  have T:=Below.refl w.heap.size w
  unfold m_spec_l11AgentText at hm
  refine enter 110 Tryz.func30 rfl rfl rfl ?_
  intro f hf
  have s0:f 0=.pointer (some ⟨ba0,oa0,none⟩):=hf 0 _ rfl
  refine wp_seq<|wp_rs rfl<|RQ.y rfl (Y.assign (v:=.string (ByteArray.mk #[])) rfl)<|RQ.nil<|then_n<|wp_seq<|wp_rb rfl<|RQ.y rfl (Y.move (v:=.pointer (some ⟨ba0,oa0,none⟩)) s0)<|RQ.y rfl (Y.nilCheck rfl)<|RQ.y rfl (Y.fieldAddr (off:=0) rfl (by kernel_rfl))<|RQ.y rfl (Y.load (v:=.int .i64 d0.kind) rfl (by kernel_rfl) (beC (cellT T (hca0 0 _ rfl))))<|RQ.call rfl (am1 rfl) (by kernel_rfl) (v:=.string (kindName d0.kind)) (bel (K:=fun _=>True) fun w' hb'=>(spec_KindName d0.kind w'))<|RQ.y rfl (Y.assign (v:=.string (kindName d0.kind)) rfl)<|RQ.nil ?_
  intro w3 hb4
  have szw3:=hb4.size
  have T:=Tt T hb4
  refine then_n<|cutRest (K:=(fun f w'=>∃(z5:ByteArray),f 0=.pointer (some ⟨ba0,oa0,none⟩)∧f 3=.string z5∧Below w.heap.size w w'∧m_spec_l11AgentText_Aj1 d0 z5=some r)) ?_ ?_
  ·rintro f w6 ⟨z5,s0_j1x,s3_j1x,T,hm⟩
   unfold m_spec_l11AgentText_Aj1 at hm
   refine wp_seq<|wp_seq<|wp_rs rfl<|RQ.y rfl (Y.move (v:=.pointer (some ⟨ba0,oa0,none⟩)) s0_j1x)<|RQ.y rfl (Y.nilCheck rfl)<|RQ.y rfl (Y.fieldAddr (off:=0) rfl (by kernel_rfl))<|RQ.y rfl (Y.load (v:=.int .i64 d0.kind) rfl (by kernel_rfl) (eqC (cellT T (hca0 0 _ rfl))))<|RQ.nil<|then_n<|wp_block<|cutRest (K:=(fun f w'=>∃(b7:Bool),f 0=.pointer (some ⟨ba0,oa0,none⟩)∧f 3=.string z5∧f 26=.int .i64 d0.kind∧f 27=.bool b7∧Below w.heap.size w w'∧m_spec_l11AgentText_Aj2 d0 z5 b7=some r)) ?_ ?_
   ·rintro f w8 ⟨b7,s0_j2x,s3_j2x,s26_j2x,s27_j2x,T,hm⟩
    unfold m_spec_l11AgentText_Aj2 at hm
    rcases bcases b7 with c9|c9
    ·replace hm:=cF c9 hm
     refine cond_f rfl (vb s27_j2x c9)<|wp_seq<|wp_rs rfl<|RQ.y rfl (Y.binI (v:=.bool (d0.kind==7)) s26_j2x rfl rfl)<|RQ.y rfl (Y.assign (v:=.bool (d0.kind==7)) rfl)<|RQ.nil<|then_n ?_
     rcases bcases (d0.kind==7) with c10|c10
     ·replace hm:=cF c10 hm
      refine cond_f rfl (vb rfl c10)<|wp_seq<|wp_rs rfl<|RQ.y rfl (Y.binI (v:=.bool (d0.kind==8)) s26_j2x rfl rfl)<|RQ.y rfl (Y.assign (v:=.bool (d0.kind==8)) rfl)<|RQ.nil<|then_n ?_
      rcases bcases (d0.kind==8) with c11|c11
      ·replace hm:=cF c11 hm
       refine cond_f rfl (vb rfl c11)<|wp_seq<|wp_seq<|wp_rs rfl<|RQ.y rfl (Y.binI (v:=.bool (d0.kind==10)) s26_j2x rfl rfl)<|RQ.y rfl (Y.assign (v:=.bool (d0.kind==10)) rfl)<|RQ.nil<|then_n ?_
       rcases bcases (d0.kind==10) with c12|c12
       ·replace hm:=cF c12 hm
        refine cond_f rfl (vb rfl c12)<|wp_rs rfl<|RQ.y rfl (Y.binI (v:=.bool (d0.kind==11)) s26_j2x rfl rfl)<|RQ.y rfl (Y.assign (v:=.bool (d0.kind==11)) rfl)<|RQ.nil<|then_n ?_
        rcases bcases (d0.kind==11) with c13|c13
        ·replace hm:=cF c13 hm
         refine cond_f rfl (vb rfl c13)<|wp_skip ?_
         refine blk_n (then_n ?_)
         refine wp_seq<|wp_seq<|wp_rs rfl<|RQ.y rfl (Y.assign (v:=.int .i64 0) rfl)<|RQ.nil<|then_n<|wp_block ?_
         obtain ⟨K1,hK1,hm⟩ :∃K,K=m_spec_l11AgentText_A1∧m_spec_l11AgentText_L1 d0 K (d0.ports.length+1) z5 0=some r:=⟨_,rfl,hm⟩
         refine wp_loopX (fun g f w'=>∃(z16:ByteArray) (i17:Int),f 0=.pointer (some ⟨ba0,oa0,none⟩)∧f 3=.string z16∧f 4=.int .i64 i17∧0≤i17∧Below w.heap.size w w'∧m_spec_l11AgentText_L1 d0 K1 g z16 i17=some r) 1 (fun f w'=>∃(z14:ByteArray),f 3=.string z14∧Below w.heap.size w w'∧m_spec_l11AgentText_A1 z14=some r) (d0.ports.length+1) ⟨z5,0,s0_j2x,s3_j2x,rfl,(by omega),T,hm⟩ ?_ ?_
         ·rintro f w15 ⟨z14,s3_1x,T,hm⟩
          unfold m_spec_l11AgentText_A1 at hm
          refine blk_hit (then_n ?_)
          refine wp_seq<|wp_rs rfl<|RQ.y rfl (Y.move (v:=.string z14) s3_1x)<|RQ.y rfl (Y.assign (v:=.string z14) rfl)<|RQ.nil<|then_n<|wp_ret ?_
          obtain rfl:=sj hm
          exact (ret1 rfl rfl rfl ⟨rfl,T⟩)
         rintro g f w18 ⟨z16,i17,s0_1,s3_1,s4_1,nn4_1,T,hm⟩
         rcases g with _|g
         ·simp only [m_spec_l11AgentText_L1] at hm; cases hm
         obtain ⟨rec1,hrec1,hm⟩ :∃z,z=m_spec_l11AgentText_L1 d0 K1 g∧m_spec_l11AgentText_B1 d0 z K1 z16 i17=some r:=⟨_,rfl,hm⟩
         unfold m_spec_l11AgentText_B1 at hm
         refine wp_seq<|wp_seq<|wp_rs rfl<|RQ.y rfl (Y.move (v:=.int .i64 i17) s4_1)<|RQ.y rfl (Y.move (v:=.pointer (some ⟨ba0,oa0,none⟩)) s0_1)<|RQ.y rfl (Y.nilCheck rfl)<|RQ.y rfl (Y.fieldAddr (off:=4) rfl (by kernel_rfl))<|RQ.y rfl (Y.load (v:=.slice A2 d0.ports.length c2) rfl (by kernel_rfl) (eqC (cellT T (hca0 4 _ rfl))))<|RQ.y rfl (Y.len (by kernel_rfl) rfl)<|RQ.y rfl (Y.binI (v:=.bool (decide (i17 < (d0.ports.length:Int)))) rfl rfl rfl)<|RQ.nil<|then_n ?_
         rcases bcases (decide (i17 < (d0.ports.length:Int))) with c19|c19
         ·replace hm:=cF c19 hm
          have pc19:=of_decide_eq_false c19
          refine cond_f rfl (vb rfl c19)<|wp_exit ?_
          exact (then_x (then_x (hit_x ⟨_,rfl,⟨z16,s3_1,T,(by rw [hK1] at hm; exact hm)⟩⟩)))
         replace hm:=cT c19 hm
         have pc19:=of_decide_eq_true c19
         refine cond_t rfl (vb rfl c19)<|wp_skip<|then_n<|wp_seq<|wp_block<|wp_rbd (by kernel_rfl) (by kernel_rfl)<|RQ.y rfl (Y.move (v:=.string z16) s3_1)<|RQ.y rfl (Y.move (v:=.pointer (some ⟨ba0,oa0,none⟩)) s0_1)<|RQ.y rfl (Y.nilCheck rfl)<|RQ.y rfl (Y.fieldAddr (off:=4) rfl (by kernel_rfl))<|RQ.y rfl (Y.load (v:=.slice A2 d0.ports.length c2) rfl (by kernel_rfl) (beC (cellT T (hca0 4 _ rfl))))<|RQ.y rfl (Y.move (v:=.int .i64 i17) s4_1) ?_
         obtain ⟨x20,hx23,hm⟩:=bnd hm
         obtain ⟨k21,hk24,hl25,hx23⟩:=getI_some hx23
         obtain ⟨b27,o28,rfl,hbb27⟩:=h2.addr (by omega)
         obtain ⟨cs22,hRcs22,hc26⟩:=h2.el hx23
         have hScs22:=hRcs22
         obtain rfl:=hRcs22
         refine RQ.y rfl (Y.indexAddr (m:=k21) (sz:=2) rfl rfl hk24 hl25 (by kernel_rfl))<|RQ.y rfl (Y.fieldAddr (off:=0) rfl (by kernel_rfl))<|RQ.y rfl (Y.load (v:=.int .i64 x20.agent) rfl (by kernel_rfl) (beC (cellT T (hc26 0 _ rfl)))) ?_
         obtain ⟨y29,e30,hm⟩:=bnd hm
         refine RQ.call rfl (am1 rfl) (by kernel_rfl) (v:=.string y29) (bel (K:=fun _=>True) fun w' hb'=>(c_m_spec_Decimal x20.agent _ e30  w' )) ?_
         obtain ⟨s31,k32,hm⟩:=bnd hm
         refine RQ.y rfl (Y.catS (s:=s31) rfl rfl k32) ?_
         obtain ⟨s33,k34,hm⟩:=bnd hm
         refine RQ.y rfl (Y.catS (s:=s33) rfl rfl k34)<|RQ.y rfl (Y.move (v:=.pointer (some ⟨ba0,oa0,none⟩)) s0_1)<|RQ.y rfl (Y.nilCheck rfl)<|RQ.y rfl (Y.fieldAddr (off:=4) rfl (by kernel_rfl))<|RQ.y rfl (Y.load (v:=.slice (some ⟨b27,o28,none⟩) d0.ports.length c2) rfl (by kernel_rfl) (beC (cellT T (hca0 4 _ rfl))))<|RQ.y rfl (Y.move (v:=.int .i64 i17) s4_1) ?_
         obtain ⟨x35,hx38,hm⟩:=bnd hm
         obtain ⟨k36,hk39,hl40,hx38⟩:=getI_some hx38
         obtain ⟨cs37,hRcs37,hc41⟩:=h2.el hx38
         have hScs37:=hRcs37
         obtain rfl:=hRcs37
         refine RQ.y rfl (Y.indexAddr (m:=k36) (sz:=2) rfl rfl hk39 hl40 (by kernel_rfl))<|RQ.y rfl (Y.fieldAddr (off:=1) rfl (by kernel_rfl))<|RQ.y rfl (Y.load (v:=.int .i64 x35.slot) rfl (by kernel_rfl) (beC (cellT T (hc41 1 _ rfl)))) ?_
         obtain ⟨y42,e43,hm⟩:=bnd hm
         refine RQ.call rfl (am1 rfl) (by kernel_rfl) (v:=.string y42) (bel (K:=fun _=>True) fun w' hb'=>(c_m_spec_Decimal x35.slot _ e43  w' )) ?_
         obtain ⟨s44,k45,hm⟩:=bnd hm
         refine RQ.y rfl (Y.catS (s:=s44) rfl rfl k45) ?_
         obtain ⟨s46,k47,hm⟩:=bnd hm
         refine RQ.y rfl (Y.catS (s:=s46) rfl rfl k47)<|RQ.y rfl (Y.assign (v:=.string s46) rfl)<|RQ.nil ?_
         intro w48 hb49
         have szw48:=hb49.size
         have T:=Tt T hb49
         refine blk_n (then_n ?_)
         refine wp_rs rfl<|RQ.y rfl (Y.move (v:=.int .i64 i17) s4_1)<|RQ.y rfl (Y.binI rfl rfl (binI_add (m:=i17) (by omega)))<|RQ.y rfl (Y.assign (v:=.int .i64 (i17+1)) rfl)<|RQ.nil ?_
         exact (then_n ⟨g,_,Nat.lt_succ_self _,rfl,⟨s46,(i17+1),s0_1,rfl,rfl,(by omega),T,(by rw [← hrec1]; exact hm)⟩⟩)
        replace hm:=cT c13 hm
        refine cond_t rfl (vb rfl c13)<|wp_rb rfl<|RQ.y rfl (Y.move (v:=.string z5) s3_j2x)<|RQ.y rfl (Y.move (v:=.pointer (some ⟨ba0,oa0,none⟩)) s0_j2x)<|RQ.y rfl (Y.nilCheck rfl)<|RQ.y rfl (Y.fieldAddr (off:=3) rfl (by kernel_rfl))<|RQ.y rfl (Y.load (v:=.slice A1 d0.data.length c1) rfl (by kernel_rfl) (beC (cellT T (hca0 3 _ rfl)))) ?_
        obtain ⟨y51,e52,hm⟩:=bnd hm
        refine RQ.call rfl (am1 rfl) (by kernel_rfl) (v:=.string y51) (bel (K:=fun _=>True) fun w' hb'=>(c_m_spec_l11Numbers d0.data _ e52 _ w' (slArg intRd_ok h1 r1 (Tt T hb')))) ?_
        obtain ⟨s53,k54,hm⟩:=bnd hm
        refine RQ.y rfl (Y.catS (s:=s53) rfl rfl k54) ?_
        obtain ⟨s55,k56,hm⟩:=bnd hm
        refine RQ.y rfl (Y.catS (s:=s55) rfl rfl k56)<|RQ.y rfl (Y.assign (v:=.string s55) rfl)<|RQ.nil ?_
        intro w57 hb58
        have szw57:=hb58.size
        have T:=Tt T hb58
        refine blk_n (then_n ?_)
        refine wp_seq<|wp_seq<|wp_rs rfl<|RQ.y rfl (Y.assign (v:=.int .i64 0) rfl)<|RQ.nil<|then_n<|wp_block ?_
        obtain ⟨K2,hK2,hm⟩ :∃K,K=m_spec_l11AgentText_A2∧m_spec_l11AgentText_L2 d0 K (d0.ports.length+1) s55 0=some r:=⟨_,rfl,hm⟩
        refine wp_loopX (fun g f w'=>∃(z61:ByteArray) (i62:Int),f 0=.pointer (some ⟨ba0,oa0,none⟩)∧f 3=.string z61∧f 4=.int .i64 i62∧0≤i62∧Below w.heap.size w w'∧m_spec_l11AgentText_L2 d0 K2 g z61 i62=some r) 1 (fun f w'=>∃(z59:ByteArray),f 3=.string z59∧Below w.heap.size w w'∧m_spec_l11AgentText_A2 z59=some r) (d0.ports.length+1) ⟨s55,0,s0_j2x,rfl,rfl,(by omega),T,hm⟩ ?_ ?_
        ·rintro f w60 ⟨z59,s3_2x,T,hm⟩
         unfold m_spec_l11AgentText_A2 at hm
         refine blk_hit (then_n ?_)
         refine wp_seq<|wp_rs rfl<|RQ.y rfl (Y.move (v:=.string z59) s3_2x)<|RQ.y rfl (Y.assign (v:=.string z59) rfl)<|RQ.nil<|then_n<|wp_ret ?_
         obtain rfl:=sj hm
         exact (ret1 rfl rfl rfl ⟨rfl,T⟩)
        rintro g f w63 ⟨z61,i62,s0_2,s3_2,s4_2,nn4_2,T,hm⟩
        rcases g with _|g
        ·simp only [m_spec_l11AgentText_L2] at hm; cases hm
        obtain ⟨rec2,hrec2,hm⟩ :∃z,z=m_spec_l11AgentText_L2 d0 K2 g∧m_spec_l11AgentText_B2 d0 z K2 z61 i62=some r:=⟨_,rfl,hm⟩
        unfold m_spec_l11AgentText_B2 at hm
        refine wp_seq<|wp_seq<|wp_rs rfl<|RQ.y rfl (Y.move (v:=.int .i64 i62) s4_2)<|RQ.y rfl (Y.move (v:=.pointer (some ⟨ba0,oa0,none⟩)) s0_2)<|RQ.y rfl (Y.nilCheck rfl)<|RQ.y rfl (Y.fieldAddr (off:=4) rfl (by kernel_rfl))<|RQ.y rfl (Y.load (v:=.slice A2 d0.ports.length c2) rfl (by kernel_rfl) (eqC (cellT T (hca0 4 _ rfl))))<|RQ.y rfl (Y.len (by kernel_rfl) rfl)<|RQ.y rfl (Y.binI (v:=.bool (decide (i62 < (d0.ports.length:Int)))) rfl rfl rfl)<|RQ.nil<|then_n ?_
        rcases bcases (decide (i62 < (d0.ports.length:Int))) with c64|c64
        ·replace hm:=cF c64 hm
         have pc64:=of_decide_eq_false c64
         refine cond_f rfl (vb rfl c64)<|wp_exit ?_
         exact (then_x (then_x (hit_x ⟨_,rfl,⟨z61,s3_2,T,(by rw [hK2] at hm; exact hm)⟩⟩)))
        replace hm:=cT c64 hm
        have pc64:=of_decide_eq_true c64
        refine cond_t rfl (vb rfl c64)<|wp_skip<|then_n<|wp_seq<|wp_block<|wp_rbd (by kernel_rfl) (by kernel_rfl)<|RQ.y rfl (Y.move (v:=.string z61) s3_2)<|RQ.y rfl (Y.move (v:=.pointer (some ⟨ba0,oa0,none⟩)) s0_2)<|RQ.y rfl (Y.nilCheck rfl)<|RQ.y rfl (Y.fieldAddr (off:=4) rfl (by kernel_rfl))<|RQ.y rfl (Y.load (v:=.slice A2 d0.ports.length c2) rfl (by kernel_rfl) (beC (cellT T (hca0 4 _ rfl))))<|RQ.y rfl (Y.move (v:=.int .i64 i62) s4_2) ?_
        obtain ⟨x65,hx68,hm⟩:=bnd hm
        obtain ⟨k66,hk69,hl70,hx68⟩:=getI_some hx68
        obtain ⟨b72,o73,rfl,hbb72⟩:=h2.addr (by omega)
        obtain ⟨cs67,hRcs67,hc71⟩:=h2.el hx68
        have hScs67:=hRcs67
        obtain rfl:=hRcs67
        refine RQ.y rfl (Y.indexAddr (m:=k66) (sz:=2) rfl rfl hk69 hl70 (by kernel_rfl))<|RQ.y rfl (Y.fieldAddr (off:=0) rfl (by kernel_rfl))<|RQ.y rfl (Y.load (v:=.int .i64 x65.agent) rfl (by kernel_rfl) (beC (cellT T (hc71 0 _ rfl)))) ?_
        obtain ⟨y74,e75,hm⟩:=bnd hm
        refine RQ.call rfl (am1 rfl) (by kernel_rfl) (v:=.string y74) (bel (K:=fun _=>True) fun w' hb'=>(c_m_spec_Decimal x65.agent _ e75  w' )) ?_
        obtain ⟨s76,k77,hm⟩:=bnd hm
        refine RQ.y rfl (Y.catS (s:=s76) rfl rfl k77) ?_
        obtain ⟨s78,k79,hm⟩:=bnd hm
        refine RQ.y rfl (Y.catS (s:=s78) rfl rfl k79)<|RQ.y rfl (Y.move (v:=.pointer (some ⟨ba0,oa0,none⟩)) s0_2)<|RQ.y rfl (Y.nilCheck rfl)<|RQ.y rfl (Y.fieldAddr (off:=4) rfl (by kernel_rfl))<|RQ.y rfl (Y.load (v:=.slice (some ⟨b72,o73,none⟩) d0.ports.length c2) rfl (by kernel_rfl) (beC (cellT T (hca0 4 _ rfl))))<|RQ.y rfl (Y.move (v:=.int .i64 i62) s4_2) ?_
        obtain ⟨x80,hx83,hm⟩:=bnd hm
        obtain ⟨k81,hk84,hl85,hx83⟩:=getI_some hx83
        obtain ⟨cs82,hRcs82,hc86⟩:=h2.el hx83
        have hScs82:=hRcs82
        obtain rfl:=hRcs82
        refine RQ.y rfl (Y.indexAddr (m:=k81) (sz:=2) rfl rfl hk84 hl85 (by kernel_rfl))<|RQ.y rfl (Y.fieldAddr (off:=1) rfl (by kernel_rfl))<|RQ.y rfl (Y.load (v:=.int .i64 x80.slot) rfl (by kernel_rfl) (beC (cellT T (hc86 1 _ rfl)))) ?_
        obtain ⟨y87,e88,hm⟩:=bnd hm
        refine RQ.call rfl (am1 rfl) (by kernel_rfl) (v:=.string y87) (bel (K:=fun _=>True) fun w' hb'=>(c_m_spec_Decimal x80.slot _ e88  w' )) ?_
        obtain ⟨s89,k90,hm⟩:=bnd hm
        refine RQ.y rfl (Y.catS (s:=s89) rfl rfl k90) ?_
        obtain ⟨s91,k92,hm⟩:=bnd hm
        refine RQ.y rfl (Y.catS (s:=s91) rfl rfl k92)<|RQ.y rfl (Y.assign (v:=.string s91) rfl)<|RQ.nil ?_
        intro w93 hb94
        have szw93:=hb94.size
        have T:=Tt T hb94
        refine blk_n (then_n ?_)
        refine wp_rs rfl<|RQ.y rfl (Y.move (v:=.int .i64 i62) s4_2)<|RQ.y rfl (Y.binI rfl rfl (binI_add (m:=i62) (by omega)))<|RQ.y rfl (Y.assign (v:=.int .i64 (i62+1)) rfl)<|RQ.nil ?_
        exact (then_n ⟨g,_,Nat.lt_succ_self _,rfl,⟨s91,(i62+1),s0_2,rfl,rfl,(by omega),T,(by rw [← hrec2]; exact hm)⟩⟩)
       replace hm:=cT c12 hm
       refine cond_t rfl (vb rfl c12)<|wp_skip<|then_n<|cond_t rfl (vb rfl c12)<|wp_rb rfl<|RQ.y rfl (Y.move (v:=.string z5) s3_j2x)<|RQ.y rfl (Y.move (v:=.pointer (some ⟨ba0,oa0,none⟩)) s0_j2x)<|RQ.y rfl (Y.nilCheck rfl)<|RQ.y rfl (Y.fieldAddr (off:=3) rfl (by kernel_rfl))<|RQ.y rfl (Y.load (v:=.slice A1 d0.data.length c1) rfl (by kernel_rfl) (beC (cellT T (hca0 3 _ rfl)))) ?_
       obtain ⟨y96,e97,hm⟩:=bnd hm
       refine RQ.call rfl (am1 rfl) (by kernel_rfl) (v:=.string y96) (bel (K:=fun _=>True) fun w' hb'=>(c_m_spec_l11Numbers d0.data _ e97 _ w' (slArg intRd_ok h1 r1 (Tt T hb')))) ?_
       obtain ⟨s98,k99,hm⟩:=bnd hm
       refine RQ.y rfl (Y.catS (s:=s98) rfl rfl k99) ?_
       obtain ⟨s100,k101,hm⟩:=bnd hm
       refine RQ.y rfl (Y.catS (s:=s100) rfl rfl k101)<|RQ.y rfl (Y.assign (v:=.string s100) rfl)<|RQ.nil ?_
       intro w102 hb103
       have szw102:=hb103.size
       have T:=Tt T hb103
       refine blk_n (then_n ?_)
       refine wp_seq<|wp_seq<|wp_rs rfl<|RQ.y rfl (Y.assign (v:=.int .i64 0) rfl)<|RQ.nil<|then_n<|wp_block ?_
       obtain ⟨K3,hK3,hm⟩ :∃K,K=m_spec_l11AgentText_A3∧m_spec_l11AgentText_L3 d0 K (d0.ports.length+1) s100 0=some r:=⟨_,rfl,hm⟩
       refine wp_loopX (fun g f w'=>∃(z106:ByteArray) (i107:Int),f 0=.pointer (some ⟨ba0,oa0,none⟩)∧f 3=.string z106∧f 4=.int .i64 i107∧0≤i107∧Below w.heap.size w w'∧m_spec_l11AgentText_L3 d0 K3 g z106 i107=some r) 1 (fun f w'=>∃(z104:ByteArray),f 3=.string z104∧Below w.heap.size w w'∧m_spec_l11AgentText_A3 z104=some r) (d0.ports.length+1) ⟨s100,0,s0_j2x,rfl,rfl,(by omega),T,hm⟩ ?_ ?_
       ·rintro f w105 ⟨z104,s3_3x,T,hm⟩
        unfold m_spec_l11AgentText_A3 at hm
        refine blk_hit (then_n ?_)
        refine wp_seq<|wp_rs rfl<|RQ.y rfl (Y.move (v:=.string z104) s3_3x)<|RQ.y rfl (Y.assign (v:=.string z104) rfl)<|RQ.nil<|then_n<|wp_ret ?_
        obtain rfl:=sj hm
        exact (ret1 rfl rfl rfl ⟨rfl,T⟩)
       rintro g f w108 ⟨z106,i107,s0_3,s3_3,s4_3,nn4_3,T,hm⟩
       rcases g with _|g
       ·simp only [m_spec_l11AgentText_L3] at hm; cases hm
       obtain ⟨rec3,hrec3,hm⟩ :∃z,z=m_spec_l11AgentText_L3 d0 K3 g∧m_spec_l11AgentText_B3 d0 z K3 z106 i107=some r:=⟨_,rfl,hm⟩
       unfold m_spec_l11AgentText_B3 at hm
       refine wp_seq<|wp_seq<|wp_rs rfl<|RQ.y rfl (Y.move (v:=.int .i64 i107) s4_3)<|RQ.y rfl (Y.move (v:=.pointer (some ⟨ba0,oa0,none⟩)) s0_3)<|RQ.y rfl (Y.nilCheck rfl)<|RQ.y rfl (Y.fieldAddr (off:=4) rfl (by kernel_rfl))<|RQ.y rfl (Y.load (v:=.slice A2 d0.ports.length c2) rfl (by kernel_rfl) (eqC (cellT T (hca0 4 _ rfl))))<|RQ.y rfl (Y.len (by kernel_rfl) rfl)<|RQ.y rfl (Y.binI (v:=.bool (decide (i107 < (d0.ports.length:Int)))) rfl rfl rfl)<|RQ.nil<|then_n ?_
       rcases bcases (decide (i107 < (d0.ports.length:Int))) with c109|c109
       ·replace hm:=cF c109 hm
        have pc109:=of_decide_eq_false c109
        refine cond_f rfl (vb rfl c109)<|wp_exit ?_
        exact (then_x (then_x (hit_x ⟨_,rfl,⟨z106,s3_3,T,(by rw [hK3] at hm; exact hm)⟩⟩)))
       replace hm:=cT c109 hm
       have pc109:=of_decide_eq_true c109
       refine cond_t rfl (vb rfl c109)<|wp_skip<|then_n<|wp_seq<|wp_block<|wp_rbd (by kernel_rfl) (by kernel_rfl)<|RQ.y rfl (Y.move (v:=.string z106) s3_3)<|RQ.y rfl (Y.move (v:=.pointer (some ⟨ba0,oa0,none⟩)) s0_3)<|RQ.y rfl (Y.nilCheck rfl)<|RQ.y rfl (Y.fieldAddr (off:=4) rfl (by kernel_rfl))<|RQ.y rfl (Y.load (v:=.slice A2 d0.ports.length c2) rfl (by kernel_rfl) (beC (cellT T (hca0 4 _ rfl))))<|RQ.y rfl (Y.move (v:=.int .i64 i107) s4_3) ?_
       obtain ⟨x110,hx113,hm⟩:=bnd hm
       obtain ⟨k111,hk114,hl115,hx113⟩:=getI_some hx113
       obtain ⟨b117,o118,rfl,hbb117⟩:=h2.addr (by omega)
       obtain ⟨cs112,hRcs112,hc116⟩:=h2.el hx113
       have hScs112:=hRcs112
       obtain rfl:=hRcs112
       refine RQ.y rfl (Y.indexAddr (m:=k111) (sz:=2) rfl rfl hk114 hl115 (by kernel_rfl))<|RQ.y rfl (Y.fieldAddr (off:=0) rfl (by kernel_rfl))<|RQ.y rfl (Y.load (v:=.int .i64 x110.agent) rfl (by kernel_rfl) (beC (cellT T (hc116 0 _ rfl)))) ?_
       obtain ⟨y119,e120,hm⟩:=bnd hm
       refine RQ.call rfl (am1 rfl) (by kernel_rfl) (v:=.string y119) (bel (K:=fun _=>True) fun w' hb'=>(c_m_spec_Decimal x110.agent _ e120  w' )) ?_
       obtain ⟨s121,k122,hm⟩:=bnd hm
       refine RQ.y rfl (Y.catS (s:=s121) rfl rfl k122) ?_
       obtain ⟨s123,k124,hm⟩:=bnd hm
       refine RQ.y rfl (Y.catS (s:=s123) rfl rfl k124)<|RQ.y rfl (Y.move (v:=.pointer (some ⟨ba0,oa0,none⟩)) s0_3)<|RQ.y rfl (Y.nilCheck rfl)<|RQ.y rfl (Y.fieldAddr (off:=4) rfl (by kernel_rfl))<|RQ.y rfl (Y.load (v:=.slice (some ⟨b117,o118,none⟩) d0.ports.length c2) rfl (by kernel_rfl) (beC (cellT T (hca0 4 _ rfl))))<|RQ.y rfl (Y.move (v:=.int .i64 i107) s4_3) ?_
       obtain ⟨x125,hx128,hm⟩:=bnd hm
       obtain ⟨k126,hk129,hl130,hx128⟩:=getI_some hx128
       obtain ⟨cs127,hRcs127,hc131⟩:=h2.el hx128
       have hScs127:=hRcs127
       obtain rfl:=hRcs127
       refine RQ.y rfl (Y.indexAddr (m:=k126) (sz:=2) rfl rfl hk129 hl130 (by kernel_rfl))<|RQ.y rfl (Y.fieldAddr (off:=1) rfl (by kernel_rfl))<|RQ.y rfl (Y.load (v:=.int .i64 x125.slot) rfl (by kernel_rfl) (beC (cellT T (hc131 1 _ rfl)))) ?_
       obtain ⟨y132,e133,hm⟩:=bnd hm
       refine RQ.call rfl (am1 rfl) (by kernel_rfl) (v:=.string y132) (bel (K:=fun _=>True) fun w' hb'=>(c_m_spec_Decimal x125.slot _ e133  w' )) ?_
       obtain ⟨s134,k135,hm⟩:=bnd hm
       refine RQ.y rfl (Y.catS (s:=s134) rfl rfl k135) ?_
       obtain ⟨s136,k137,hm⟩:=bnd hm
       refine RQ.y rfl (Y.catS (s:=s136) rfl rfl k137)<|RQ.y rfl (Y.assign (v:=.string s136) rfl)<|RQ.nil ?_
       intro w138 hb139
       have szw138:=hb139.size
       have T:=Tt T hb139
       refine blk_n (then_n ?_)
       refine wp_rs rfl<|RQ.y rfl (Y.move (v:=.int .i64 i107) s4_3)<|RQ.y rfl (Y.binI rfl rfl (binI_add (m:=i107) (by omega)))<|RQ.y rfl (Y.assign (v:=.int .i64 (i107+1)) rfl)<|RQ.nil ?_
       exact (then_n ⟨g,_,Nat.lt_succ_self _,rfl,⟨s136,(i107+1),s0_3,rfl,rfl,(by omega),T,(by rw [← hrec3]; exact hm)⟩⟩)
      replace hm:=cT c11 hm
      refine cond_t rfl (vb rfl c11)<|wp_rbd (by kernel_rfl) (by kernel_rfl)<|RQ.y rfl (Y.move (v:=.string z5) s3_j2x)<|RQ.y rfl (Y.move (v:=.pointer (some ⟨ba0,oa0,none⟩)) s0_j2x)<|RQ.y rfl (Y.nilCheck rfl)<|RQ.y rfl (Y.fieldAddr (off:=2) rfl (by kernel_rfl))<|RQ.y rfl (Y.load (v:=.int .i64 d0.value) rfl (by kernel_rfl) (beC (cellT T (hca0 2 _ rfl)))) ?_
      obtain ⟨y141,e142,hm⟩:=bnd hm
      refine RQ.call rfl (am1 rfl) (by kernel_rfl) (v:=.string y141) (bel (K:=fun _=>True) fun w' hb'=>(c_m_spec_OperatorText d0.value _ e142  w' )) ?_
      obtain ⟨s143,k144,hm⟩:=bnd hm
      refine RQ.y rfl (Y.catS (s:=s143) rfl rfl k144) ?_
      obtain ⟨s145,k146,hm⟩:=bnd hm
      refine RQ.y rfl (Y.catS (s:=s145) rfl rfl k146)<|RQ.y rfl (Y.move (v:=.pointer (some ⟨ba0,oa0,none⟩)) s0_j2x)<|RQ.y rfl (Y.nilCheck rfl)<|RQ.y rfl (Y.fieldAddr (off:=3) rfl (by kernel_rfl))<|RQ.y rfl (Y.load (v:=.slice A1 d0.data.length c1) rfl (by kernel_rfl) (beC (cellT T (hca0 3 _ rfl)))) ?_
      obtain ⟨y147,e148,hm⟩:=bnd hm
      refine RQ.call rfl (am1 rfl) (by kernel_rfl) (v:=.string y147) (bel (K:=fun _=>True) fun w' hb'=>(c_m_spec_l11Numbers d0.data _ e148 _ w' (slArg intRd_ok h1 r1 (Tt T hb')))) ?_
      obtain ⟨s149,k150,hm⟩:=bnd hm
      refine RQ.y rfl (Y.catS (s:=s149) rfl rfl k150) ?_
      obtain ⟨s151,k152,hm⟩:=bnd hm
      refine RQ.y rfl (Y.catS (s:=s151) rfl rfl k152)<|RQ.y rfl (Y.assign (v:=.string s151) rfl)<|RQ.nil ?_
      intro w153 hb154
      have szw153:=hb154.size
      have T:=Tt T hb154
      refine blk_n (then_n ?_)
      refine wp_seq<|wp_seq<|wp_rs rfl<|RQ.y rfl (Y.assign (v:=.int .i64 0) rfl)<|RQ.nil<|then_n<|wp_block ?_
      obtain ⟨K4,hK4,hm⟩ :∃K,K=m_spec_l11AgentText_A4∧m_spec_l11AgentText_L4 d0 K (d0.ports.length+1) s151 0=some r:=⟨_,rfl,hm⟩
      refine wp_loopX (fun g f w'=>∃(z157:ByteArray) (i158:Int),f 0=.pointer (some ⟨ba0,oa0,none⟩)∧f 3=.string z157∧f 4=.int .i64 i158∧0≤i158∧Below w.heap.size w w'∧m_spec_l11AgentText_L4 d0 K4 g z157 i158=some r) 1 (fun f w'=>∃(z155:ByteArray),f 3=.string z155∧Below w.heap.size w w'∧m_spec_l11AgentText_A4 z155=some r) (d0.ports.length+1) ⟨s151,0,s0_j2x,rfl,rfl,(by omega),T,hm⟩ ?_ ?_
      ·rintro f w156 ⟨z155,s3_4x,T,hm⟩
       unfold m_spec_l11AgentText_A4 at hm
       refine blk_hit (then_n ?_)
       refine wp_seq<|wp_rs rfl<|RQ.y rfl (Y.move (v:=.string z155) s3_4x)<|RQ.y rfl (Y.assign (v:=.string z155) rfl)<|RQ.nil<|then_n<|wp_ret ?_
       obtain rfl:=sj hm
       exact (ret1 rfl rfl rfl ⟨rfl,T⟩)
      rintro g f w159 ⟨z157,i158,s0_4,s3_4,s4_4,nn4_4,T,hm⟩
      rcases g with _|g
      ·simp only [m_spec_l11AgentText_L4] at hm; cases hm
      obtain ⟨rec4,hrec4,hm⟩ :∃z,z=m_spec_l11AgentText_L4 d0 K4 g∧m_spec_l11AgentText_B4 d0 z K4 z157 i158=some r:=⟨_,rfl,hm⟩
      unfold m_spec_l11AgentText_B4 at hm
      refine wp_seq<|wp_seq<|wp_rs rfl<|RQ.y rfl (Y.move (v:=.int .i64 i158) s4_4)<|RQ.y rfl (Y.move (v:=.pointer (some ⟨ba0,oa0,none⟩)) s0_4)<|RQ.y rfl (Y.nilCheck rfl)<|RQ.y rfl (Y.fieldAddr (off:=4) rfl (by kernel_rfl))<|RQ.y rfl (Y.load (v:=.slice A2 d0.ports.length c2) rfl (by kernel_rfl) (eqC (cellT T (hca0 4 _ rfl))))<|RQ.y rfl (Y.len (by kernel_rfl) rfl)<|RQ.y rfl (Y.binI (v:=.bool (decide (i158 < (d0.ports.length:Int)))) rfl rfl rfl)<|RQ.nil<|then_n ?_
      rcases bcases (decide (i158 < (d0.ports.length:Int))) with c160|c160
      ·replace hm:=cF c160 hm
       have pc160:=of_decide_eq_false c160
       refine cond_f rfl (vb rfl c160)<|wp_exit ?_
       exact (then_x (then_x (hit_x ⟨_,rfl,⟨z157,s3_4,T,(by rw [hK4] at hm; exact hm)⟩⟩)))
      replace hm:=cT c160 hm
      have pc160:=of_decide_eq_true c160
      refine cond_t rfl (vb rfl c160)<|wp_skip<|then_n<|wp_seq<|wp_block<|wp_rbd (by kernel_rfl) (by kernel_rfl)<|RQ.y rfl (Y.move (v:=.string z157) s3_4)<|RQ.y rfl (Y.move (v:=.pointer (some ⟨ba0,oa0,none⟩)) s0_4)<|RQ.y rfl (Y.nilCheck rfl)<|RQ.y rfl (Y.fieldAddr (off:=4) rfl (by kernel_rfl))<|RQ.y rfl (Y.load (v:=.slice A2 d0.ports.length c2) rfl (by kernel_rfl) (beC (cellT T (hca0 4 _ rfl))))<|RQ.y rfl (Y.move (v:=.int .i64 i158) s4_4) ?_
      obtain ⟨x161,hx164,hm⟩:=bnd hm
      obtain ⟨k162,hk165,hl166,hx164⟩:=getI_some hx164
      obtain ⟨b168,o169,rfl,hbb168⟩:=h2.addr (by omega)
      obtain ⟨cs163,hRcs163,hc167⟩:=h2.el hx164
      have hScs163:=hRcs163
      obtain rfl:=hRcs163
      refine RQ.y rfl (Y.indexAddr (m:=k162) (sz:=2) rfl rfl hk165 hl166 (by kernel_rfl))<|RQ.y rfl (Y.fieldAddr (off:=0) rfl (by kernel_rfl))<|RQ.y rfl (Y.load (v:=.int .i64 x161.agent) rfl (by kernel_rfl) (beC (cellT T (hc167 0 _ rfl)))) ?_
      obtain ⟨y170,e171,hm⟩:=bnd hm
      refine RQ.call rfl (am1 rfl) (by kernel_rfl) (v:=.string y170) (bel (K:=fun _=>True) fun w' hb'=>(c_m_spec_Decimal x161.agent _ e171  w' )) ?_
      obtain ⟨s172,k173,hm⟩:=bnd hm
      refine RQ.y rfl (Y.catS (s:=s172) rfl rfl k173) ?_
      obtain ⟨s174,k175,hm⟩:=bnd hm
      refine RQ.y rfl (Y.catS (s:=s174) rfl rfl k175)<|RQ.y rfl (Y.move (v:=.pointer (some ⟨ba0,oa0,none⟩)) s0_4)<|RQ.y rfl (Y.nilCheck rfl)<|RQ.y rfl (Y.fieldAddr (off:=4) rfl (by kernel_rfl))<|RQ.y rfl (Y.load (v:=.slice (some ⟨b168,o169,none⟩) d0.ports.length c2) rfl (by kernel_rfl) (beC (cellT T (hca0 4 _ rfl))))<|RQ.y rfl (Y.move (v:=.int .i64 i158) s4_4) ?_
      obtain ⟨x176,hx179,hm⟩:=bnd hm
      obtain ⟨k177,hk180,hl181,hx179⟩:=getI_some hx179
      obtain ⟨cs178,hRcs178,hc182⟩:=h2.el hx179
      have hScs178:=hRcs178
      obtain rfl:=hRcs178
      refine RQ.y rfl (Y.indexAddr (m:=k177) (sz:=2) rfl rfl hk180 hl181 (by kernel_rfl))<|RQ.y rfl (Y.fieldAddr (off:=1) rfl (by kernel_rfl))<|RQ.y rfl (Y.load (v:=.int .i64 x176.slot) rfl (by kernel_rfl) (beC (cellT T (hc182 1 _ rfl)))) ?_
      obtain ⟨y183,e184,hm⟩:=bnd hm
      refine RQ.call rfl (am1 rfl) (by kernel_rfl) (v:=.string y183) (bel (K:=fun _=>True) fun w' hb'=>(c_m_spec_Decimal x176.slot _ e184  w' )) ?_
      obtain ⟨s185,k186,hm⟩:=bnd hm
      refine RQ.y rfl (Y.catS (s:=s185) rfl rfl k186) ?_
      obtain ⟨s187,k188,hm⟩:=bnd hm
      refine RQ.y rfl (Y.catS (s:=s187) rfl rfl k188)<|RQ.y rfl (Y.assign (v:=.string s187) rfl)<|RQ.nil ?_
      intro w189 hb190
      have szw189:=hb190.size
      have T:=Tt T hb190
      refine blk_n (then_n ?_)
      refine wp_rs rfl<|RQ.y rfl (Y.move (v:=.int .i64 i158) s4_4)<|RQ.y rfl (Y.binI rfl rfl (binI_add (m:=i158) (by omega)))<|RQ.y rfl (Y.assign (v:=.int .i64 (i158+1)) rfl)<|RQ.nil ?_
      exact (then_n ⟨g,_,Nat.lt_succ_self _,rfl,⟨s187,(i158+1),s0_4,rfl,rfl,(by omega),T,(by rw [← hrec4]; exact hm)⟩⟩)
     replace hm:=cT c10 hm
     refine cond_t rfl (vb rfl c10)<|wp_rb rfl<|RQ.y rfl (Y.move (v:=.string z5) s3_j2x)<|RQ.y rfl (Y.move (v:=.pointer (some ⟨ba0,oa0,none⟩)) s0_j2x)<|RQ.y rfl (Y.nilCheck rfl)<|RQ.y rfl (Y.fieldAddr (off:=2) rfl (by kernel_rfl))<|RQ.y rfl (Y.load (v:=.int .i64 d0.value) rfl (by kernel_rfl) (beC (cellT T (hca0 2 _ rfl)))) ?_
     obtain ⟨y192,e193,hm⟩:=bnd hm
     refine RQ.call rfl (am1 rfl) (by kernel_rfl) (v:=.string y192) (bel (K:=fun _=>True) fun w' hb'=>(c_m_spec_OperatorText d0.value _ e193  w' )) ?_
     obtain ⟨s194,k195,hm⟩:=bnd hm
     refine RQ.y rfl (Y.catS (s:=s194) rfl rfl k195) ?_
     obtain ⟨s196,k197,hm⟩:=bnd hm
     refine RQ.y rfl (Y.catS (s:=s196) rfl rfl k197)<|RQ.y rfl (Y.assign (v:=.string s196) rfl)<|RQ.nil ?_
     intro w198 hb199
     have szw198:=hb199.size
     have T:=Tt T hb199
     refine blk_n (then_n ?_)
     refine wp_seq<|wp_seq<|wp_rs rfl<|RQ.y rfl (Y.assign (v:=.int .i64 0) rfl)<|RQ.nil<|then_n<|wp_block ?_
     obtain ⟨K5,hK5,hm⟩ :∃K,K=m_spec_l11AgentText_A5∧m_spec_l11AgentText_L5 d0 K (d0.ports.length+1) s196 0=some r:=⟨_,rfl,hm⟩
     refine wp_loopX (fun g f w'=>∃(z202:ByteArray) (i203:Int),f 0=.pointer (some ⟨ba0,oa0,none⟩)∧f 3=.string z202∧f 4=.int .i64 i203∧0≤i203∧Below w.heap.size w w'∧m_spec_l11AgentText_L5 d0 K5 g z202 i203=some r) 1 (fun f w'=>∃(z200:ByteArray),f 3=.string z200∧Below w.heap.size w w'∧m_spec_l11AgentText_A5 z200=some r) (d0.ports.length+1) ⟨s196,0,s0_j2x,rfl,rfl,(by omega),T,hm⟩ ?_ ?_
     ·rintro f w201 ⟨z200,s3_5x,T,hm⟩
      unfold m_spec_l11AgentText_A5 at hm
      refine blk_hit (then_n ?_)
      refine wp_seq<|wp_rs rfl<|RQ.y rfl (Y.move (v:=.string z200) s3_5x)<|RQ.y rfl (Y.assign (v:=.string z200) rfl)<|RQ.nil<|then_n<|wp_ret ?_
      obtain rfl:=sj hm
      exact (ret1 rfl rfl rfl ⟨rfl,T⟩)
     rintro g f w204 ⟨z202,i203,s0_5,s3_5,s4_5,nn4_5,T,hm⟩
     rcases g with _|g
     ·simp only [m_spec_l11AgentText_L5] at hm; cases hm
     obtain ⟨rec5,hrec5,hm⟩ :∃z,z=m_spec_l11AgentText_L5 d0 K5 g∧m_spec_l11AgentText_B5 d0 z K5 z202 i203=some r:=⟨_,rfl,hm⟩
     unfold m_spec_l11AgentText_B5 at hm
     refine wp_seq<|wp_seq<|wp_rs rfl<|RQ.y rfl (Y.move (v:=.int .i64 i203) s4_5)<|RQ.y rfl (Y.move (v:=.pointer (some ⟨ba0,oa0,none⟩)) s0_5)<|RQ.y rfl (Y.nilCheck rfl)<|RQ.y rfl (Y.fieldAddr (off:=4) rfl (by kernel_rfl))<|RQ.y rfl (Y.load (v:=.slice A2 d0.ports.length c2) rfl (by kernel_rfl) (eqC (cellT T (hca0 4 _ rfl))))<|RQ.y rfl (Y.len (by kernel_rfl) rfl)<|RQ.y rfl (Y.binI (v:=.bool (decide (i203 < (d0.ports.length:Int)))) rfl rfl rfl)<|RQ.nil<|then_n ?_
     rcases bcases (decide (i203 < (d0.ports.length:Int))) with c205|c205
     ·replace hm:=cF c205 hm
      have pc205:=of_decide_eq_false c205
      refine cond_f rfl (vb rfl c205)<|wp_exit ?_
      exact (then_x (then_x (hit_x ⟨_,rfl,⟨z202,s3_5,T,(by rw [hK5] at hm; exact hm)⟩⟩)))
     replace hm:=cT c205 hm
     have pc205:=of_decide_eq_true c205
     refine cond_t rfl (vb rfl c205)<|wp_skip<|then_n<|wp_seq<|wp_block<|wp_rbd (by kernel_rfl) (by kernel_rfl)<|RQ.y rfl (Y.move (v:=.string z202) s3_5)<|RQ.y rfl (Y.move (v:=.pointer (some ⟨ba0,oa0,none⟩)) s0_5)<|RQ.y rfl (Y.nilCheck rfl)<|RQ.y rfl (Y.fieldAddr (off:=4) rfl (by kernel_rfl))<|RQ.y rfl (Y.load (v:=.slice A2 d0.ports.length c2) rfl (by kernel_rfl) (beC (cellT T (hca0 4 _ rfl))))<|RQ.y rfl (Y.move (v:=.int .i64 i203) s4_5) ?_
     obtain ⟨x206,hx209,hm⟩:=bnd hm
     obtain ⟨k207,hk210,hl211,hx209⟩:=getI_some hx209
     obtain ⟨b213,o214,rfl,hbb213⟩:=h2.addr (by omega)
     obtain ⟨cs208,hRcs208,hc212⟩:=h2.el hx209
     have hScs208:=hRcs208
     obtain rfl:=hRcs208
     refine RQ.y rfl (Y.indexAddr (m:=k207) (sz:=2) rfl rfl hk210 hl211 (by kernel_rfl))<|RQ.y rfl (Y.fieldAddr (off:=0) rfl (by kernel_rfl))<|RQ.y rfl (Y.load (v:=.int .i64 x206.agent) rfl (by kernel_rfl) (beC (cellT T (hc212 0 _ rfl)))) ?_
     obtain ⟨y215,e216,hm⟩:=bnd hm
     refine RQ.call rfl (am1 rfl) (by kernel_rfl) (v:=.string y215) (bel (K:=fun _=>True) fun w' hb'=>(c_m_spec_Decimal x206.agent _ e216  w' )) ?_
     obtain ⟨s217,k218,hm⟩:=bnd hm
     refine RQ.y rfl (Y.catS (s:=s217) rfl rfl k218) ?_
     obtain ⟨s219,k220,hm⟩:=bnd hm
     refine RQ.y rfl (Y.catS (s:=s219) rfl rfl k220)<|RQ.y rfl (Y.move (v:=.pointer (some ⟨ba0,oa0,none⟩)) s0_5)<|RQ.y rfl (Y.nilCheck rfl)<|RQ.y rfl (Y.fieldAddr (off:=4) rfl (by kernel_rfl))<|RQ.y rfl (Y.load (v:=.slice (some ⟨b213,o214,none⟩) d0.ports.length c2) rfl (by kernel_rfl) (beC (cellT T (hca0 4 _ rfl))))<|RQ.y rfl (Y.move (v:=.int .i64 i203) s4_5) ?_
     obtain ⟨x221,hx224,hm⟩:=bnd hm
     obtain ⟨k222,hk225,hl226,hx224⟩:=getI_some hx224
     obtain ⟨cs223,hRcs223,hc227⟩:=h2.el hx224
     have hScs223:=hRcs223
     obtain rfl:=hRcs223
     refine RQ.y rfl (Y.indexAddr (m:=k222) (sz:=2) rfl rfl hk225 hl226 (by kernel_rfl))<|RQ.y rfl (Y.fieldAddr (off:=1) rfl (by kernel_rfl))<|RQ.y rfl (Y.load (v:=.int .i64 x221.slot) rfl (by kernel_rfl) (beC (cellT T (hc227 1 _ rfl)))) ?_
     obtain ⟨y228,e229,hm⟩:=bnd hm
     refine RQ.call rfl (am1 rfl) (by kernel_rfl) (v:=.string y228) (bel (K:=fun _=>True) fun w' hb'=>(c_m_spec_Decimal x221.slot _ e229  w' )) ?_
     obtain ⟨s230,k231,hm⟩:=bnd hm
     refine RQ.y rfl (Y.catS (s:=s230) rfl rfl k231) ?_
     obtain ⟨s232,k233,hm⟩:=bnd hm
     refine RQ.y rfl (Y.catS (s:=s232) rfl rfl k233)<|RQ.y rfl (Y.assign (v:=.string s232) rfl)<|RQ.nil ?_
     intro w234 hb235
     have szw234:=hb235.size
     have T:=Tt T hb235
     refine blk_n (then_n ?_)
     refine wp_rs rfl<|RQ.y rfl (Y.move (v:=.int .i64 i203) s4_5)<|RQ.y rfl (Y.binI rfl rfl (binI_add (m:=i203) (by omega)))<|RQ.y rfl (Y.assign (v:=.int .i64 (i203+1)) rfl)<|RQ.nil ?_
     exact (then_n ⟨g,_,Nat.lt_succ_self _,rfl,⟨s232,(i203+1),s0_5,rfl,rfl,(by omega),T,(by rw [← hrec5]; exact hm)⟩⟩)
    replace hm:=cT c9 hm
    refine cond_t rfl (vb s27_j2x c9)<|wp_rb rfl<|RQ.y rfl (Y.move (v:=.string z5) s3_j2x)<|RQ.y rfl (Y.move (v:=.pointer (some ⟨ba0,oa0,none⟩)) s0_j2x)<|RQ.y rfl (Y.nilCheck rfl)<|RQ.y rfl (Y.fieldAddr (off:=2) rfl (by kernel_rfl))<|RQ.y rfl (Y.load (v:=.int .i64 d0.value) rfl (by kernel_rfl) (beC (cellT T (hca0 2 _ rfl)))) ?_
    obtain ⟨y237,e238,hm⟩:=bnd hm
    refine RQ.call rfl (am1 rfl) (by kernel_rfl) (v:=.string y237) (bel (K:=fun _=>True) fun w' hb'=>(c_m_spec_Decimal d0.value _ e238  w' )) ?_
    obtain ⟨s239,k240,hm⟩:=bnd hm
    refine RQ.y rfl (Y.catS (s:=s239) rfl rfl k240) ?_
    obtain ⟨s241,k242,hm⟩:=bnd hm
    refine RQ.y rfl (Y.catS (s:=s241) rfl rfl k242)<|RQ.y rfl (Y.assign (v:=.string s241) rfl)<|RQ.nil ?_
    intro w243 hb244
    have szw243:=hb244.size
    have T:=Tt T hb244
    refine blk_n (then_n ?_)
    refine wp_seq<|wp_seq<|wp_rs rfl<|RQ.y rfl (Y.assign (v:=.int .i64 0) rfl)<|RQ.nil<|then_n<|wp_block ?_
    obtain ⟨K6,hK6,hm⟩ :∃K,K=m_spec_l11AgentText_A6∧m_spec_l11AgentText_L6 d0 K (d0.ports.length+1) s241 0=some r:=⟨_,rfl,hm⟩
    refine wp_loopX (fun g f w'=>∃(z247:ByteArray) (i248:Int),f 0=.pointer (some ⟨ba0,oa0,none⟩)∧f 3=.string z247∧f 4=.int .i64 i248∧0≤i248∧Below w.heap.size w w'∧m_spec_l11AgentText_L6 d0 K6 g z247 i248=some r) 1 (fun f w'=>∃(z245:ByteArray),f 3=.string z245∧Below w.heap.size w w'∧m_spec_l11AgentText_A6 z245=some r) (d0.ports.length+1) ⟨s241,0,s0_j2x,rfl,rfl,(by omega),T,hm⟩ ?_ ?_
    ·rintro f w246 ⟨z245,s3_6x,T,hm⟩
     unfold m_spec_l11AgentText_A6 at hm
     refine blk_hit (then_n ?_)
     refine wp_seq<|wp_rs rfl<|RQ.y rfl (Y.move (v:=.string z245) s3_6x)<|RQ.y rfl (Y.assign (v:=.string z245) rfl)<|RQ.nil<|then_n<|wp_ret ?_
     obtain rfl:=sj hm
     exact (ret1 rfl rfl rfl ⟨rfl,T⟩)
    rintro g f w249 ⟨z247,i248,s0_6,s3_6,s4_6,nn4_6,T,hm⟩
    rcases g with _|g
    ·simp only [m_spec_l11AgentText_L6] at hm; cases hm
    obtain ⟨rec6,hrec6,hm⟩ :∃z,z=m_spec_l11AgentText_L6 d0 K6 g∧m_spec_l11AgentText_B6 d0 z K6 z247 i248=some r:=⟨_,rfl,hm⟩
    unfold m_spec_l11AgentText_B6 at hm
    refine wp_seq<|wp_seq<|wp_rs rfl<|RQ.y rfl (Y.move (v:=.int .i64 i248) s4_6)<|RQ.y rfl (Y.move (v:=.pointer (some ⟨ba0,oa0,none⟩)) s0_6)<|RQ.y rfl (Y.nilCheck rfl)<|RQ.y rfl (Y.fieldAddr (off:=4) rfl (by kernel_rfl))<|RQ.y rfl (Y.load (v:=.slice A2 d0.ports.length c2) rfl (by kernel_rfl) (eqC (cellT T (hca0 4 _ rfl))))<|RQ.y rfl (Y.len (by kernel_rfl) rfl)<|RQ.y rfl (Y.binI (v:=.bool (decide (i248 < (d0.ports.length:Int)))) rfl rfl rfl)<|RQ.nil<|then_n ?_
    rcases bcases (decide (i248 < (d0.ports.length:Int))) with c250|c250
    ·replace hm:=cF c250 hm
     have pc250:=of_decide_eq_false c250
     refine cond_f rfl (vb rfl c250)<|wp_exit ?_
     exact (then_x (then_x (hit_x ⟨_,rfl,⟨z247,s3_6,T,(by rw [hK6] at hm; exact hm)⟩⟩)))
    replace hm:=cT c250 hm
    have pc250:=of_decide_eq_true c250
    refine cond_t rfl (vb rfl c250)<|wp_skip<|then_n<|wp_seq<|wp_block<|wp_rbd (by kernel_rfl) (by kernel_rfl)<|RQ.y rfl (Y.move (v:=.string z247) s3_6)<|RQ.y rfl (Y.move (v:=.pointer (some ⟨ba0,oa0,none⟩)) s0_6)<|RQ.y rfl (Y.nilCheck rfl)<|RQ.y rfl (Y.fieldAddr (off:=4) rfl (by kernel_rfl))<|RQ.y rfl (Y.load (v:=.slice A2 d0.ports.length c2) rfl (by kernel_rfl) (beC (cellT T (hca0 4 _ rfl))))<|RQ.y rfl (Y.move (v:=.int .i64 i248) s4_6) ?_
    obtain ⟨x251,hx254,hm⟩:=bnd hm
    obtain ⟨k252,hk255,hl256,hx254⟩:=getI_some hx254
    obtain ⟨b258,o259,rfl,hbb258⟩:=h2.addr (by omega)
    obtain ⟨cs253,hRcs253,hc257⟩:=h2.el hx254
    have hScs253:=hRcs253
    obtain rfl:=hRcs253
    refine RQ.y rfl (Y.indexAddr (m:=k252) (sz:=2) rfl rfl hk255 hl256 (by kernel_rfl))<|RQ.y rfl (Y.fieldAddr (off:=0) rfl (by kernel_rfl))<|RQ.y rfl (Y.load (v:=.int .i64 x251.agent) rfl (by kernel_rfl) (beC (cellT T (hc257 0 _ rfl)))) ?_
    obtain ⟨y260,e261,hm⟩:=bnd hm
    refine RQ.call rfl (am1 rfl) (by kernel_rfl) (v:=.string y260) (bel (K:=fun _=>True) fun w' hb'=>(c_m_spec_Decimal x251.agent _ e261  w' )) ?_
    obtain ⟨s262,k263,hm⟩:=bnd hm
    refine RQ.y rfl (Y.catS (s:=s262) rfl rfl k263) ?_
    obtain ⟨s264,k265,hm⟩:=bnd hm
    refine RQ.y rfl (Y.catS (s:=s264) rfl rfl k265)<|RQ.y rfl (Y.move (v:=.pointer (some ⟨ba0,oa0,none⟩)) s0_6)<|RQ.y rfl (Y.nilCheck rfl)<|RQ.y rfl (Y.fieldAddr (off:=4) rfl (by kernel_rfl))<|RQ.y rfl (Y.load (v:=.slice (some ⟨b258,o259,none⟩) d0.ports.length c2) rfl (by kernel_rfl) (beC (cellT T (hca0 4 _ rfl))))<|RQ.y rfl (Y.move (v:=.int .i64 i248) s4_6) ?_
    obtain ⟨x266,hx269,hm⟩:=bnd hm
    obtain ⟨k267,hk270,hl271,hx269⟩:=getI_some hx269
    obtain ⟨cs268,hRcs268,hc272⟩:=h2.el hx269
    have hScs268:=hRcs268
    obtain rfl:=hRcs268
    refine RQ.y rfl (Y.indexAddr (m:=k267) (sz:=2) rfl rfl hk270 hl271 (by kernel_rfl))<|RQ.y rfl (Y.fieldAddr (off:=1) rfl (by kernel_rfl))<|RQ.y rfl (Y.load (v:=.int .i64 x266.slot) rfl (by kernel_rfl) (beC (cellT T (hc272 1 _ rfl)))) ?_
    obtain ⟨y273,e274,hm⟩:=bnd hm
    refine RQ.call rfl (am1 rfl) (by kernel_rfl) (v:=.string y273) (bel (K:=fun _=>True) fun w' hb'=>(c_m_spec_Decimal x266.slot _ e274  w' )) ?_
    obtain ⟨s275,k276,hm⟩:=bnd hm
    refine RQ.y rfl (Y.catS (s:=s275) rfl rfl k276) ?_
    obtain ⟨s277,k278,hm⟩:=bnd hm
    refine RQ.y rfl (Y.catS (s:=s277) rfl rfl k278)<|RQ.y rfl (Y.assign (v:=.string s277) rfl)<|RQ.nil ?_
    intro w279 hb280
    have szw279:=hb280.size
    have T:=Tt T hb280
    refine blk_n (then_n ?_)
    refine wp_rs rfl<|RQ.y rfl (Y.move (v:=.int .i64 i248) s4_6)<|RQ.y rfl (Y.binI rfl rfl (binI_add (m:=i248) (by omega)))<|RQ.y rfl (Y.assign (v:=.int .i64 (i248+1)) rfl)<|RQ.nil ?_
    exact (then_n ⟨g,_,Nat.lt_succ_self _,rfl,⟨s277,(i248+1),s0_6,rfl,rfl,(by omega),T,(by rw [← hrec6]; exact hm)⟩⟩)
   intro hJj2
   refine wp_seq<|wp_seq<|wp_rs rfl<|RQ.y rfl (Y.binI (v:=.bool (d0.kind==6)) rfl rfl rfl)<|RQ.y rfl (Y.assign (v:=.bool (d0.kind==6)) rfl)<|RQ.nil<|then_n ?_
   rcases bcases (d0.kind==6) with c282|c282
   ·replace hm:=cF c282 hm
    refine cond_f rfl (vb rfl c282)<|wp_seq<|wp_rs rfl<|RQ.y rfl (Y.binI (v:=.bool (d0.kind==9)) rfl rfl rfl)<|RQ.y rfl (Y.assign (v:=.bool (d0.kind==9)) rfl)<|RQ.nil<|then_n ?_
    rcases bcases (d0.kind==9) with c283|c283
    ·replace hm:=cF c283 hm
     refine cond_f rfl (vb rfl c283)<|wp_rs rfl<|RQ.y rfl (Y.binI (v:=.bool (d0.kind==12)) rfl rfl rfl)<|RQ.y rfl (Y.assign (v:=.bool (d0.kind==12)) rfl)<|RQ.nil<|then_n ?_
     exact hJj2 _ _ ⟨(d0.kind==12),s0_j1x,s3_j1x,rfl,rfl,T,hm⟩
    replace hm:=cT c283 hm
    refine cond_t rfl (vb rfl c283)<|wp_skip<|then_n ?_
    exact hJj2 _ _ ⟨(d0.kind==9),s0_j1x,s3_j1x,rfl,rfl,T,hm⟩
   replace hm:=cT c282 hm
   refine cond_t rfl (vb rfl c282)<|wp_skip<|then_n ?_
   exact hJj2 _ _ ⟨(d0.kind==6),s0_j1x,s3_j1x,rfl,rfl,T,hm⟩
  intro hJj1
  refine wp_seq<|wp_seq<|wp_rb rfl<|RQ.y rfl (Y.move (v:=.pointer (some ⟨ba0,oa0,none⟩)) s0)<|RQ.y rfl (Y.nilCheck rfl)<|RQ.y rfl (Y.fieldAddr (off:=0) rfl (by kernel_rfl))<|RQ.y rfl (Y.load (v:=.int .i64 d0.kind) rfl (by kernel_rfl) (beC (cellT T (hca0 0 _ rfl))))<|RQ.call rfl (am1 rfl) (by kernel_rfl) (v:=.bool (hasLevel d0.kind)) (bel (K:=fun _=>True) fun w' hb'=>(callB (spec_HasLevel d0.kind w')))<|RQ.nil ?_
  intro w284 hb285
  have szw284:=hb285.size
  have T:=Tt T hb285
  refine then_n ?_
  rcases bcases (hasLevel d0.kind) with c286|c286
  ·replace hm:=cF c286 hm
   refine cond_f rfl (vb rfl c286)<|wp_skip<|then_n ?_
   exact hJj1 _ _ ⟨(kindName d0.kind),s0,rfl,T,hm⟩
  replace hm:=cT c286 hm
  refine cond_t rfl (vb rfl c286)<|wp_rb rfl<|RQ.y rfl (Y.move (v:=.string (kindName d0.kind)) rfl)<|RQ.y rfl (Y.move (v:=.pointer (some ⟨ba0,oa0,none⟩)) s0)<|RQ.y rfl (Y.nilCheck rfl)<|RQ.y rfl (Y.fieldAddr (off:=1) rfl (by kernel_rfl))<|RQ.y rfl (Y.load (v:=.int .i64 d0.level) rfl (by kernel_rfl) (beC (cellT T (hca0 1 _ rfl)))) ?_
  obtain ⟨y287,e288,hm⟩:=bnd hm
  refine RQ.call rfl (am1 rfl) (by kernel_rfl) (v:=.string y287) (bel (K:=fun _=>True) fun w' hb'=>(c_m_spec_Decimal d0.level _ e288  w' )) ?_
  obtain ⟨s289,k290,hm⟩:=bnd hm
  refine RQ.y rfl (Y.catS (s:=s289) rfl rfl k290) ?_
  obtain ⟨s291,k292,hm⟩:=bnd hm
  refine RQ.y rfl (Y.catS (s:=s291) rfl rfl k292)<|RQ.y rfl (Y.assign (v:=.string s291) rfl)<|RQ.nil ?_
  intro w293 hb294
  have szw293:=hb294.size
  have T:=Tt T hb294
  refine then_n ?_
  exact hJj1 _ _ ⟨s291,s0,rfl,T,hm⟩
def m_spec_l11Text_A1 (xs8:List Int):Option ByteArray:=
  some (ofNums xs8)
def m_spec_l11Text_B1 (d0:DNet) (rec1:List Int→Int→Option ByteArray) (K1:List Int→Option ByteArray) (xs10:List Int) (i11:Int):Option ByteArray:=
  (bif (decide (i11 < (d0.agents.length:Int))) then (bif (decide (i11 > 0)) then ((mustP (xs10.length+(nums (ByteArray.mk #[59,32])).length≤4294967296)).bind fun _=>((getI d0.agents i11).bind fun x48=>((m_spec_l11AgentText x48).bind fun y59=>((mustP ((xs10 ++ (nums (ByteArray.mk #[59,32]))).length+(nums y59).length≤4294967296)).bind fun _=>(rec1 ((xs10 ++ (nums (ByteArray.mk #[59,32]))) ++ (nums y59)) (i11+1)))))) else ((getI d0.agents i11).bind fun x15=>((m_spec_l11AgentText x15).bind fun y26=>((mustP (xs10.length+(nums y26).length≤4294967296)).bind fun _=>(rec1 (xs10 ++ (nums y26)) (i11+1)))))) else (K1 xs10))
def m_spec_l11Text_L1 (d0:DNet) (K1:List Int→Option ByteArray):Nat→List Int→Int→Option ByteArray
  |0,_,_=>none
  |g+1,xs10,i11=>m_spec_l11Text_B1 d0 (m_spec_l11Text_L1 d0 K1 g) K1 xs10 i11
def m_spec_l11Text (d0:DNet):Option ByteArray:=
  (m_spec_l11Text_L1 d0 m_spec_l11Text_A1 (d0.agents.length+1) ([] : List Int) 0)
set_option maxHeartbeats 2000000 in
theorem c_m_spec_l11Text (d0:DNet) (r:ByteArray) (hm:m_spec_l11Text d0=some r) (v0:Value) (w:World) (hv0:Pt netRd w v0 d0) :
    Calls Tryz.prog 16 #[v0] w fun e w'=>e=.returned (.string r)∧Below w.heap.size w w':=by
  obtain ⟨ba0,oa0,csa0,rfl,hba0,hRa0,hca0⟩:=hv0
  have hSa0:=hRa0
  obtain ⟨A1,n1,c1,rfl,⟨h1,r1⟩⟩:=hRa0
  have e1:=h1.len; subst e1
  have q1:=len_le r1
  have T:=Below.refl w.heap.size w
  unfold m_spec_l11Text at hm
  refine enter 30 Tryz.func16 rfl rfl rfl ?_
  intro f hf
  have s0:f 0=.pointer (some ⟨ba0,oa0,none⟩):=hf 0 _ rfl
  refine wp_seq<|wp_rs rfl<|RQ.y rfl (Y.assign (v:=.string (ByteArray.mk #[])) rfl)<|RQ.nil<|then_n<|wp_seq<|wp_rl rfl ?_
  refine RL.bslice (e:=5) (cells:=#[]) rfl pm0 (by kernel_rfl) (fun w2 B3 hb4 szw2=>?_)
  have ZB3:w.heap.size≤w.heap.size:=T.size
  have T:=Tt T hb4
  have G6:=OwF.lit (enc:=encU) (sz:=1) (xs:=([] : List Int)) B3 ZB3 rfl rfl rfl rfl
  refine RL.y rfl (Y.assign (v:=.slice (some ⟨w.heap.size,0,none⟩) 0 0) rfl)<|RL.nil<|then_n<|wp_seq<|wp_seq<|wp_rs rfl<|RQ.y rfl (Y.assign (v:=.int .i64 0) rfl)<|RQ.nil<|then_n<|wp_block ?_
  obtain ⟨K1,hK1,hm⟩ :∃K,K=m_spec_l11Text_A1∧m_spec_l11Text_L1 d0 K (d0.agents.length+1) ([] : List Int) 0=some r:=⟨_,rfl,hm⟩
  refine wp_loopX (fun g f w'=>∃(xs10:List Int) (i11:Int) (uxs10:Value),f 0=.pointer (some ⟨ba0,oa0,none⟩)∧f 3=uxs10∧OwF 5 encU 1 w' w.heap.size uxs10 xs10∧f 4=.int .i64 i11∧0≤i11∧Below w.heap.size w w'∧m_spec_l11Text_L1 d0 K1 g xs10 i11=some r) 0 (fun f w'=>∃(xs8:List Int) (uxs8:Value),f 3=uxs8∧OwF 5 encU 1 w' w.heap.size uxs8 xs8∧Below w.heap.size w w'∧m_spec_l11Text_A1 xs8=some r) (d0.agents.length+1) ⟨([] : List Int),0,(.slice (some ⟨w.heap.size,0,none⟩) 0 0),s0,rfl,G6,rfl,(by omega),T,hm⟩ ?_ ?_
  ·rintro f w9 ⟨xs8,uxs8,s3_1x,Guxs8,T,hm⟩
   unfold m_spec_l11Text_A1 at hm
   refine blk_hit (then_n ?_)
   refine wp_seq<|wp_rs rfl<|RQ.y rfl (Y.move (v:=uxs8) s3_1x)<|RQ.y rfl (Y.b2s (e:=5) (xs:=xs8) (lo:=w.heap.size) rfl (by kernel_rfl) (by kernel_rfl) (by kernel_rfl) (fun w' e=>by rw [e]; exact Guxs8))<|RQ.y rfl (Y.assign (v:=.string (ofNums xs8)) rfl)<|RQ.nil<|then_n<|wp_ret ?_
   obtain rfl:=sj hm
   exact (ret1 rfl rfl rfl ⟨rfl,T⟩)
  rintro g f w12 ⟨xs10,i11,uxs10,s0_1,s3_1,Guxs10,s4_1,nn4_1,T,hm⟩
  rcases g with _|g
  ·simp only [m_spec_l11Text_L1] at hm; cases hm
  obtain ⟨rec1,hrec1,hm⟩ :∃z,z=m_spec_l11Text_L1 d0 K1 g∧m_spec_l11Text_B1 d0 z K1 xs10 i11=some r:=⟨_,rfl,hm⟩
  unfold m_spec_l11Text_B1 at hm
  refine wp_seq<|wp_seq<|wp_rs rfl<|RQ.y rfl (Y.move (v:=.int .i64 i11) s4_1)<|RQ.y rfl (Y.move (v:=.pointer (some ⟨ba0,oa0,none⟩)) s0_1)<|RQ.y rfl (Y.nilCheck rfl)<|RQ.y rfl (Y.fieldAddr (off:=0) rfl (by kernel_rfl))<|RQ.y rfl (Y.load (v:=.slice A1 d0.agents.length c1) rfl (by kernel_rfl) (eqC (cellT T (hca0 0 _ rfl))))<|RQ.y rfl (Y.len (by kernel_rfl) rfl)<|RQ.y rfl (Y.binI (v:=.bool (decide (i11 < (d0.agents.length:Int)))) rfl rfl rfl)<|RQ.nil<|then_n ?_
  rcases bcases (decide (i11 < (d0.agents.length:Int))) with c13|c13
  ·replace hm:=cF c13 hm
   have pc13:=of_decide_eq_false c13
   refine cond_f rfl (vb rfl c13)<|wp_exit ?_
   exact (then_x (then_x (hit_x ⟨_,rfl,⟨xs10,(uxs10),s3_1,Guxs10,T,(by rw [hK1] at hm; exact hm)⟩⟩)))
  replace hm:=cT c13 hm
  have pc13:=of_decide_eq_true c13
  refine cond_t rfl (vb rfl c13)<|wp_skip<|then_n<|wp_seq<|wp_block<|wp_seq<|wp_seq<|wp_rs rfl<|RQ.y rfl (Y.move (v:=.int .i64 i11) s4_1)<|RQ.y rfl (Y.binI (v:=.bool (decide (i11 > 0))) rfl rfl rfl)<|RQ.nil<|then_n ?_
  rcases bcases (decide (i11 > 0)) with c14|c14
  ·replace hm:=cF c14 hm
   have pc14:=of_decide_eq_false c14
   refine cond_f rfl (vb rfl c14)<|wp_skip<|then_n<|wp_rl rfl<|RL.y rfl (Y.move (v:=uxs10) s3_1)<|RL.y rfl (Y.move (v:=.pointer (some ⟨ba0,oa0,none⟩)) s0_1)<|RL.y rfl (Y.nilCheck rfl)<|RL.y rfl (Y.fieldAddr (off:=0) rfl (by kernel_rfl))<|RL.y rfl (Y.load (v:=.slice A1 d0.agents.length c1) rfl (by kernel_rfl) (eqC (cellT T (hca0 0 _ rfl))))<|RL.y rfl (Y.move (v:=.int .i64 i11) s4_1) ?_
   obtain ⟨x15,hx18,hm⟩:=bnd hm
   obtain ⟨k16,hk19,hl20,hx18⟩:=getI_some hx18
   obtain ⟨b22,o23,rfl,hbb22⟩:=h1.addr (by omega)
   obtain ⟨cs17,hRcs17,hc21⟩:=h1.el hx18
   have hScs17:=hRcs17
   obtain ⟨A24,n24,c24,A25,n25,c25,rfl,⟨h24,r24⟩,⟨h25,r25⟩⟩:=hRcs17
   have e24:=h24.len; subst e24
   have q24:=len_le r24
   have e25:=h25.len; subst e25
   have q25:=len_le r25
   refine RL.y rfl (Y.indexAddr (m:=k16) (sz:=5) rfl rfl hk19 hl20 (by kernel_rfl)) ?_
   obtain ⟨y26,e27,hm⟩:=bnd hm
   refine RL.call rfl (am1 rfl) (by kernel_rfl) ((c_m_spec_l11AgentText x15 _ e27 _ _ (ptArg agentRd_ok hbb22 hScs17 hc21 T)).mono ?_)
   rintro _ w28 ⟨rfl,hb29⟩
   refine ⟨_,rfl,?_⟩
   have szw28:=hb29.size
   have Guxs10:=OwF.below Guxs10 hb29
   have T:=Tt T hb29
   obtain ⟨_,m30,hm⟩:=bnd hm
   have hk31:=mustP_some m30
   refine RL.appendS app_uint8 (by kernel_rfl) rfl rfl rfl Guxs10 T.size (by rw [nums_length] at hk31; exact hk31) (fun v32 w33 G34 hgr35 hbl36 hnb37=>?_)
   have szw33:=hbl36.size
   have T:=T.trans hbl36
   refine RL.y rfl (Y.assign (v:=v32) rfl)<|RL.nil ?_
   refine blk_n (then_n ?_)
   refine wp_rs rfl<|RQ.y rfl (Y.move (v:=.int .i64 i11) s4_1)<|RQ.y rfl (Y.binI rfl rfl (binI_add (m:=i11) (by omega)))<|RQ.y rfl (Y.assign (v:=.int .i64 (i11+1)) rfl)<|RQ.nil ?_
   exact (then_n ⟨g,_,Nat.lt_succ_self _,rfl,⟨(xs10 ++ (nums y26)),(i11+1),(v32),s0_1,rfl,G34,rfl,(by omega),T,(by rw [← hrec1]; exact hm)⟩⟩)
  replace hm:=cT c14 hm
  have pc14:=of_decide_eq_true c14
  refine cond_t rfl (vb rfl c14)<|wp_rl rfl<|RL.y rfl (Y.move (v:=uxs10) s3_1) ?_
  obtain ⟨_,m39,hm⟩:=bnd hm
  have hk40:=mustP_some m39
  refine RL.appendS app_uint8 (by kernel_rfl) rfl rfl rfl Guxs10 T.size (by rw [nums_length] at hk40; exact hk40) (fun v41 w42 G43 hgr44 hbl45 hnb46=>?_)
  have szw42:=hbl45.size
  have T:=T.trans hbl45
  refine RL.y rfl (Y.assign (v:=v41) rfl)<|RL.nil<|then_n<|wp_rl rfl<|RL.y rfl (Y.move (v:=v41) rfl)<|RL.y rfl (Y.move (v:=.pointer (some ⟨ba0,oa0,none⟩)) s0_1)<|RL.y rfl (Y.nilCheck rfl)<|RL.y rfl (Y.fieldAddr (off:=0) rfl (by kernel_rfl))<|RL.y rfl (Y.load (v:=.slice A1 d0.agents.length c1) rfl (by kernel_rfl) (eqC (cellT T (hca0 0 _ rfl))))<|RL.y rfl (Y.move (v:=.int .i64 i11) s4_1) ?_
  obtain ⟨x48,hx51,hm⟩:=bnd hm
  obtain ⟨k49,hk52,hl53,hx51⟩:=getI_some hx51
  obtain ⟨b55,o56,rfl,hbb55⟩:=h1.addr (by omega)
  obtain ⟨cs50,hRcs50,hc54⟩:=h1.el hx51
  have hScs50:=hRcs50
  obtain ⟨A57,n57,c57,A58,n58,c58,rfl,⟨h57,r57⟩,⟨h58,r58⟩⟩:=hRcs50
  have e57:=h57.len; subst e57
  have q57:=len_le r57
  have e58:=h58.len; subst e58
  have q58:=len_le r58
  refine RL.y rfl (Y.indexAddr (m:=k49) (sz:=5) rfl rfl hk52 hl53 (by kernel_rfl)) ?_
  obtain ⟨y59,e60,hm⟩:=bnd hm
  refine RL.call rfl (am1 rfl) (by kernel_rfl) ((c_m_spec_l11AgentText x48 _ e60 _ _ (ptArg agentRd_ok hbb55 hScs50 hc54 T)).mono ?_)
  rintro _ w61 ⟨rfl,hb62⟩
  refine ⟨_,rfl,?_⟩
  have szw61:=hb62.size
  have G43:=OwF.below G43 hb62
  have T:=Tt T hb62
  obtain ⟨_,m63,hm⟩:=bnd hm
  have hk64:=mustP_some m63
  refine RL.appendS app_uint8 (by kernel_rfl) rfl rfl rfl G43 T.size (by rw [nums_length] at hk64; exact hk64) (fun v65 w66 G67 hgr68 hbl69 hnb70=>?_)
  have szw66:=hbl69.size
  have T:=T.trans hbl69
  refine RL.y rfl (Y.assign (v:=v65) rfl)<|RL.nil ?_
  refine blk_n (then_n ?_)
  refine wp_rs rfl<|RQ.y rfl (Y.move (v:=.int .i64 i11) s4_1)<|RQ.y rfl (Y.binI rfl rfl (binI_add (m:=i11) (by omega)))<|RQ.y rfl (Y.assign (v:=.int .i64 (i11+1)) rfl)<|RQ.nil ?_
  exact (then_n ⟨g,_,Nat.lt_succ_self _,rfl,⟨((xs10 ++ (nums (ByteArray.mk #[59,32]))) ++ (nums y59)),(i11+1),(v65),s0_1,rfl,G67,rfl,(by omega),T,(by rw [← hrec1]; exact hm)⟩⟩)
end
section
open Go.RowKit
set_option maxRecDepth 100000
def m_impl_Decimal (d0:Int):Option ByteArray:=
  ((fmtM d0 10).bind fun y1=>some y1)
set_option maxHeartbeats 2000000 in
theorem c_m_impl_Decimal (d0:Int) (r:ByteArray) (hm:m_impl_Decimal d0=some r)  (w:World) (hW:WD w)  :
    Calls Tryz.prog 71 #[.int .i64 d0] w fun e w'=>e=.returned (.string r)∧Below w.heap.size w w':=by
  have T:=Below.refl w.heap.size w
  unfold m_impl_Decimal at hm
  refine enter 5 Tryz.func71 rfl rfl rfl ?_
  intro f hf
  have s0:f 0=.int .i64 d0:=hf 0 _ rfl
  refine wp_seq<|wp_rs rfl<|RQ.y rfl (Y.assign (v:=.string (ByteArray.mk #[])) rfl)<|RQ.nil<|then_n<|wp_seq<|wp_rb rfl<|RQ.y rfl (Y.move (v:=.int .i64 d0) s0) ?_
  obtain ⟨y1,e2,hm⟩:=bnd hm
  refine RQ.call rfl (am2 rfl rfl) (by kernel_rfl) (v:=.string y1) (bel (K:=fun _=>True) fun w' hb'=>(c_fmtM d0 10 _ e2  w' (WD.below hW (Tt T hb')) ))<|RQ.y rfl (Y.assign (v:=.string y1) rfl)<|RQ.nil ?_
  intro w3 hb4
  have szw3:=hb4.size
  have T:=Tt T hb4
  refine then_n<|wp_ret ?_
  obtain rfl:=sj hm
  exact (ret1 rfl rfl rfl ⟨rfl,T⟩)
def m_impl_OperatorText (d0:Int):Option ByteArray:=
  ((m_impl_isOperator d0).bind fun y1=>(bif y1 then ((ck (d0 - 1)).bind fun s6=>((subS (ByteArray.mk #[43,45,42,47,60,61]) s6 d0).bind fun s7=>some s7)) else some (ByteArray.mk #[])))
set_option maxHeartbeats 2000000 in
theorem c_m_impl_OperatorText (d0:Int) (r:ByteArray) (hm:m_impl_OperatorText d0=some r)  (w:World)  :
    Calls Tryz.prog 72 #[.int .i64 d0] w fun e w'=>e=.returned (.string r)∧Below w.heap.size w w':=by
  have T:=Below.refl w.heap.size w
  unfold m_impl_OperatorText at hm
  refine enter 10 Tryz.func72 rfl rfl rfl ?_
  intro f hf
  have s0:f 0=.int .i64 d0:=hf 0 _ rfl
  refine wp_seq<|wp_rs rfl<|RQ.y rfl (Y.assign (v:=.string (ByteArray.mk #[])) rfl)<|RQ.nil<|then_n<|wp_seq<|wp_seq<|wp_rb rfl<|RQ.y rfl (Y.move (v:=.int .i64 d0) s0) ?_
  obtain ⟨y1,e2,hm⟩:=bnd hm
  refine RQ.call rfl (am1 rfl) (by kernel_rfl) (v:=.bool y1) (bel (K:=fun _=>True) fun w' hb'=>(c_m_impl_isOperator d0 _ e2  w' ))<|RQ.y rfl (Y.not (b':=(!y1)) rfl rfl)<|RQ.nil ?_
  intro w3 hb4
  have szw3:=hb4.size
  have T:=Tt T hb4
  refine then_n ?_
  rcases bcases y1 with c5|c5
  ·replace hm:=cF c5 hm
   refine cond_t rfl (vbn rfl c5 rfl)<|wp_seq<|wp_rs rfl<|RQ.y rfl (Y.assign (v:=.string (ByteArray.mk #[])) rfl)<|RQ.nil<|then_n<|wp_ret ?_
   obtain rfl:=sj hm
   exact (then_r (ret1 rfl rfl rfl ⟨rfl,T⟩))
  replace hm:=cT c5 hm
  refine cond_f rfl (vbn rfl c5 rfl)<|wp_skip<|then_n<|wp_seq<|wp_rs rfl<|RQ.y rfl (Y.move (v:=.int .i64 d0) s0) ?_
  obtain ⟨s6,ks6,hm⟩:=bnd hm
  replace ks6:=ck_some ks6
  refine RQ.y rfl (Y.binI (v:=.int .i64 s6) rfl rfl (by rw [binI_sub ks6.2,ks6.1]))<|RQ.y rfl (Y.move (v:=.int .i64 d0) s0) ?_
  obtain ⟨s7,k8,hm⟩:=bnd hm
  refine RQ.y rfl (Y.subS (s:=s7) rfl rfl rfl (by kernel_rfl) k8)<|RQ.y rfl (Y.assign (v:=.string s7) rfl)<|RQ.nil<|then_n<|wp_ret ?_
  obtain rfl:=sj hm
  exact (ret1 rfl rfl rfl ⟨rfl,T⟩)
def m_impl_decimals_A1 (xs1:List ByteArray):Option ByteArray:=
  ((joinM xs1 (ByteArray.mk #[32])).bind fun y3=>some y3)
def m_impl_decimals_B1 (d0:List Int) (rec1:List ByteArray→Int→Option ByteArray) (K1:List ByteArray→Option ByteArray) (xs7:List ByteArray) (i8:Int):Option ByteArray:=
  (bif (decide (i8 < (d0.length:Int))) then ((getI d0 i8).bind fun x11=>((m_impl_Decimal x11).bind fun y20=>((mustP (xs7.length+([y20]).length≤4294967296)).bind fun _=>(rec1 (xs7 ++ [y20]) (i8+1))))) else (K1 xs7))
def m_impl_decimals_L1 (d0:List Int) (K1:List ByteArray→Option ByteArray):Nat→List ByteArray→Int→Option ByteArray
  |0,_,_=>none
  |g+1,xs7,i8=>m_impl_decimals_B1 d0 (m_impl_decimals_L1 d0 K1 g) K1 xs7 i8
def m_impl_decimals (d0:List Int):Option ByteArray:=
  (m_impl_decimals_L1 d0 m_impl_decimals_A1 (d0.length+1) ([]) 0)
set_option maxHeartbeats 2000000 in
theorem c_m_impl_decimals (d0:List Int) (r:ByteArray) (hm:m_impl_decimals d0=some r) (v0:Value) (w:World) (hW:WD w) (hv0:Sl intRd 1 w v0 d0) :
    Calls Tryz.prog 74 #[v0] w fun e w'=>e=.returned (.string r)∧Below w.heap.size w w':=by
  obtain ⟨Aa0,na0,ca0,rfl,ha0,ra0⟩:=hv0
  have ea0:=ha0.len; subst ea0
  have qa0:=len_le ra0
  have T:=Below.refl w.heap.size w
  unfold m_impl_decimals at hm
  refine enter 20 Tryz.func74 rfl rfl rfl ?_
  intro f hf
  have s0:f 0=.slice Aa0 d0.length ca0:=hf 0 _ rfl
  refine wp_seq<|wp_rs rfl<|RQ.y rfl (Y.assign (v:=.string (ByteArray.mk #[])) rfl)<|RQ.nil<|then_n<|wp_seq<|wp_rs rfl<|RQ.y rfl (Y.assign (v:=.slice none 0 0) rfl)<|RQ.nil<|then_n<|wp_seq<|wp_seq<|wp_rs rfl<|RQ.y rfl (Y.move (v:=.slice Aa0 d0.length ca0) s0)<|RQ.y rfl (Y.len (by kernel_rfl) rfl)<|RQ.y rfl (Y.move (v:=.int .i64 0) rfl)<|RQ.nil<|then_n<|wp_block ?_
  obtain ⟨K1,hK1,hm⟩ :∃K,K=m_impl_decimals_A1∧m_impl_decimals_L1 d0 K (d0.length+1) ([]) 0=some r:=⟨_,rfl,hm⟩
  refine wp_loopX (fun g f w'=>∃(xs7:List ByteArray) (i8:Int) (uxs7:Value),f 6=.slice Aa0 d0.length ca0∧f 7=.int .i64 (d0.length:Int)∧f 3=uxs7∧OwF 9 encS 1 w' w.heap.size uxs7 xs7∧f 8=.int .i64 i8∧0≤i8∧Below w.heap.size w w'∧m_impl_decimals_L1 d0 K1 g xs7 i8=some r) 0 (fun f w'=>∃(xs1:List ByteArray) (uxs1:Value),f 3=uxs1∧OwF 9 encS 1 w' w.heap.size uxs1 xs1∧Below w.heap.size w w'∧m_impl_decimals_A1 xs1=some r) (d0.length+1) ⟨([]),0,(.slice none 0 0),rfl,rfl,rfl,OwF.nil,rfl,(by omega),T,hm⟩ ?_ ?_
  ·rintro f w2 ⟨xs1,uxs1,s3_1x,Guxs1,T,hm⟩
   unfold m_impl_decimals_A1 at hm
   refine blk_hit (then_n ?_)
   refine wp_seq<|wp_rb rfl<|RQ.y rfl (Y.move (v:=uxs1) s3_1x) ?_
   obtain ⟨y3,e4,hm⟩:=bnd hm
   refine RQ.call rfl (am2 rfl rfl) (by kernel_rfl) (v:=.string y3) (bel (K:=fun _=>True) fun w' hb'=>(c_joinM xs1 (ByteArray.mk #[32]) _ e4 _ w' (OwF.arg fS (OwF.below Guxs1 hb'))))<|RQ.y rfl (Y.assign (v:=.string y3) rfl)<|RQ.nil ?_
   intro w5 hb6
   have szw5:=hb6.size
   have T:=Tt T hb6
   refine then_n<|wp_ret ?_
   obtain rfl:=sj hm
   exact (ret1 rfl rfl rfl ⟨rfl,T⟩)
  rintro g f w9 ⟨xs7,i8,uxs7,s6_1,s7_1,s3_1,Guxs7,s8_1,nn8_1,T,hm⟩
  rcases g with _|g
  ·simp only [m_impl_decimals_L1] at hm; cases hm
  obtain ⟨rec1,hrec1,hm⟩ :∃z,z=m_impl_decimals_L1 d0 K1 g∧m_impl_decimals_B1 d0 z K1 xs7 i8=some r:=⟨_,rfl,hm⟩
  unfold m_impl_decimals_B1 at hm
  refine wp_seq<|wp_rs rfl<|RQ.y rfl (Y.binI (v:=.bool (decide (i8 < (d0.length:Int)))) s8_1 s7_1 rfl)<|RQ.nil<|then_n<|wp_seq ?_
  rcases bcases (decide (i8 < (d0.length:Int))) with c10|c10
  ·replace hm:=cF c10 hm
   have pc10:=of_decide_eq_false c10
   refine cond_f rfl (vb rfl c10)<|wp_exit ?_
   exact (then_x (then_x (hit_x ⟨_,rfl,⟨xs7,(uxs7),s3_1,Guxs7,T,(by rw [hK1] at hm; exact hm)⟩⟩)))
  replace hm:=cT c10 hm
  have pc10:=of_decide_eq_true c10
  refine cond_t rfl (vb rfl c10)<|wp_skip<|then_n<|wp_seq<|wp_block<|wp_seq<|wp_rs rfl ?_
  obtain ⟨x11,hx14,hm⟩:=bnd hm
  obtain ⟨k12,hk15,hl16,hx14⟩:=getI_some hx14
  obtain ⟨b18,o19,rfl,hbb18⟩:=ha0.addr (by omega)
  obtain ⟨cs13,hRcs13,hc17⟩:=ha0.el hx14
  have hScs13:=hRcs13
  obtain rfl:=hRcs13
  refine RQ.y rfl (Y.indexAddr (m:=k12) (sz:=1) s6_1 s8_1 hk15 hl16 (by kernel_rfl))<|RQ.y rfl (Y.load (v:=.int .i64 x11) rfl (by kernel_rfl) (eqC (cellT T (hc17 0 _ rfl))))<|RQ.y rfl (Y.assign (v:=.int .i64 x11) rfl)<|RQ.nil<|then_n<|wp_rl rfl<|RL.y rfl (Y.move (v:=uxs7) s3_1)<|RL.y rfl (Y.move (v:=.int .i64 x11) rfl) ?_
  obtain ⟨y20,e21,hm⟩:=bnd hm
  refine RL.call rfl (am1 rfl) (by kernel_rfl) ((c_m_impl_Decimal x11 _ e21  _ (WD.below hW T) ).mono ?_)
  rintro _ w22 ⟨rfl,hb23⟩
  refine ⟨_,rfl,?_⟩
  have szw22:=hb23.size
  have Guxs7:=OwF.below Guxs7 hb23
  have T:=Tt T hb23
  refine RL.bslice (e:=9) (cells:=#[.string y20]) rfl (pm1 rfl) (by kernel_rfl) (fun w24 B25 hb26 szw24=>?_)
  have ZB25:w.heap.size≤w22.heap.size:=T.size
  have Do27_oxs7:=Dj.new (v:=.slice (some ⟨w22.heap.size,0,none⟩) 1 1) litGe (OwF.hi Guxs7)
  have Guxs7:=OwF.below Guxs7 hb26
  have T:=Tt T hb26
  have G28:=OwF.lit (enc:=encS) (sz:=1) (xs:=[y20]) B25 ZB25 rfl rfl rfl rfl
  obtain ⟨_,m30,hm⟩:=bnd hm
  have hk31:=mustP_some m30
  refine RL.append fS app_string rfl rfl rfl Guxs7 (OwF.arg fS G28) T.size hk31 (fun v32 w33 G34 hgr35 hbl36 hnb37=>?_)
  have szw33:=hbl36.size
  have T:=T.trans hbl36
  refine RL.y rfl (Y.assign (v:=v32) rfl)<|RL.nil ?_
  refine blk_n (then_n ?_)
  refine wp_rs rfl<|RQ.y rfl (Y.binI s8_1 rfl (binI_add (m:=i8) (by omega)))<|RQ.y rfl (Y.move (v:=.int .i64 (i8+1)) rfl)<|RQ.nil ?_
  exact (then_n ⟨g,_,Nat.lt_succ_self _,rfl,⟨(xs7 ++ [y20]),(i8+1),(v32),s6_1,s7_1,rfl,G34,rfl,(by omega),T,(by rw [← hrec1]; exact hm)⟩⟩)
def m_impl_agentText_A1 (z28:ByteArray):Option ByteArray:=
  some z28
def m_impl_agentText_B1 (d0:DAgent) (rec1:Int→ByteArray→Option ByteArray) (K1:ByteArray→Option ByteArray) (i34:Int) (z35:ByteArray):Option ByteArray:=
  (bif (decide (i34 < (d0.ports.length:Int))) then ((getI d0.ports i34).bind fun x38=>((m_impl_Decimal x38.agent).bind fun y57=>((catS (ByteArray.mk #[32]) y57).bind fun s61=>((catS s61 (ByteArray.mk #[46])).bind fun s63=>((m_impl_Decimal x38.slot).bind fun y65=>((catS s63 y65).bind fun s69=>((wrS z35 s69).bind fun x75=>(rec1 (i34+1) x75)))))))) else (K1 z35))
def m_impl_agentText_L1 (d0:DAgent) (K1:ByteArray→Option ByteArray):Nat→Int→ByteArray→Option ByteArray
  |0,_,_=>none
  |g+1,i34,z35=>m_impl_agentText_B1 d0 (m_impl_agentText_L1 d0 K1 g) K1 i34 z35
def m_impl_agentText_A2 (z94:ByteArray):Option ByteArray:=
  some z94
def m_impl_agentText_B2 (d0:DAgent) (rec2:Int→ByteArray→Option ByteArray) (K2:ByteArray→Option ByteArray) (i100:Int) (z101:ByteArray):Option ByteArray:=
  (bif (decide (i100 < (d0.ports.length:Int))) then ((getI d0.ports i100).bind fun x104=>((m_impl_Decimal x104.agent).bind fun y123=>((catS (ByteArray.mk #[32]) y123).bind fun s127=>((catS s127 (ByteArray.mk #[46])).bind fun s129=>((m_impl_Decimal x104.slot).bind fun y131=>((catS s129 y131).bind fun s135=>((wrS z101 s135).bind fun x141=>(rec2 (i100+1) x141)))))))) else (K2 z101))
def m_impl_agentText_L2 (d0:DAgent) (K2:ByteArray→Option ByteArray):Nat→Int→ByteArray→Option ByteArray
  |0,_,_=>none
  |g+1,i100,z101=>m_impl_agentText_B2 d0 (m_impl_agentText_L2 d0 K2 g) K2 i100 z101
def m_impl_agentText_A3 (z160:ByteArray):Option ByteArray:=
  some z160
def m_impl_agentText_B3 (d0:DAgent) (rec3:Int→ByteArray→Option ByteArray) (K3:ByteArray→Option ByteArray) (i166:Int) (z167:ByteArray):Option ByteArray:=
  (bif (decide (i166 < (d0.ports.length:Int))) then ((getI d0.ports i166).bind fun x170=>((m_impl_Decimal x170.agent).bind fun y189=>((catS (ByteArray.mk #[32]) y189).bind fun s193=>((catS s193 (ByteArray.mk #[46])).bind fun s195=>((m_impl_Decimal x170.slot).bind fun y197=>((catS s195 y197).bind fun s201=>((wrS z167 s201).bind fun x207=>(rec3 (i166+1) x207)))))))) else (K3 z167))
def m_impl_agentText_L3 (d0:DAgent) (K3:ByteArray→Option ByteArray):Nat→Int→ByteArray→Option ByteArray
  |0,_,_=>none
  |g+1,i166,z167=>m_impl_agentText_B3 d0 (m_impl_agentText_L3 d0 K3 g) K3 i166 z167
def m_impl_agentText_A4 (z241:ByteArray):Option ByteArray:=
  some z241
def m_impl_agentText_B4 (d0:DAgent) (rec4:Int→ByteArray→Option ByteArray) (K4:ByteArray→Option ByteArray) (i247:Int) (z248:ByteArray):Option ByteArray:=
  (bif (decide (i247 < (d0.ports.length:Int))) then ((getI d0.ports i247).bind fun x251=>((m_impl_Decimal x251.agent).bind fun y270=>((catS (ByteArray.mk #[32]) y270).bind fun s274=>((catS s274 (ByteArray.mk #[46])).bind fun s276=>((m_impl_Decimal x251.slot).bind fun y278=>((catS s276 y278).bind fun s282=>((wrS z248 s282).bind fun x288=>(rec4 (i247+1) x288)))))))) else (K4 z248))
def m_impl_agentText_L4 (d0:DAgent) (K4:ByteArray→Option ByteArray):Nat→Int→ByteArray→Option ByteArray
  |0,_,_=>none
  |g+1,i247,z248=>m_impl_agentText_B4 d0 (m_impl_agentText_L4 d0 K4 g) K4 i247 z248
def m_impl_agentText_A5 (z303:ByteArray):Option ByteArray:=
  some z303
def m_impl_agentText_B5 (d0:DAgent) (rec5:Int→ByteArray→Option ByteArray) (K5:ByteArray→Option ByteArray) (i309:Int) (z310:ByteArray):Option ByteArray:=
  (bif (decide (i309 < (d0.ports.length:Int))) then ((getI d0.ports i309).bind fun x313=>((m_impl_Decimal x313.agent).bind fun y332=>((catS (ByteArray.mk #[32]) y332).bind fun s336=>((catS s336 (ByteArray.mk #[46])).bind fun s338=>((m_impl_Decimal x313.slot).bind fun y340=>((catS s338 y340).bind fun s344=>((wrS z310 s344).bind fun x350=>(rec5 (i309+1) x350)))))))) else (K5 z310))
def m_impl_agentText_L5 (d0:DAgent) (K5:ByteArray→Option ByteArray):Nat→Int→ByteArray→Option ByteArray
  |0,_,_=>none
  |g+1,i309,z310=>m_impl_agentText_B5 d0 (m_impl_agentText_L5 d0 K5 g) K5 i309 z310
def m_impl_agentText_A6 (z365:ByteArray):Option ByteArray:=
  some z365
def m_impl_agentText_B6 (d0:DAgent) (rec6:Int→ByteArray→Option ByteArray) (K6:ByteArray→Option ByteArray) (i371:Int) (z372:ByteArray):Option ByteArray:=
  (bif (decide (i371 < (d0.ports.length:Int))) then ((getI d0.ports i371).bind fun x375=>((m_impl_Decimal x375.agent).bind fun y394=>((catS (ByteArray.mk #[32]) y394).bind fun s398=>((catS s398 (ByteArray.mk #[46])).bind fun s400=>((m_impl_Decimal x375.slot).bind fun y402=>((catS s400 y402).bind fun s406=>((wrS z372 s406).bind fun x412=>(rec6 (i371+1) x412)))))))) else (K6 z372))
def m_impl_agentText_L6 (d0:DAgent) (K6:ByteArray→Option ByteArray):Nat→Int→ByteArray→Option ByteArray
  |0,_,_=>none
  |g+1,i371,z372=>m_impl_agentText_B6 d0 (m_impl_agentText_L6 d0 K6 g) K6 i371 z372
def m_impl_agentText_Aj2 (d0:DAgent) (z19:ByteArray) (b21:Bool):Option ByteArray:=
  (bif b21 then ((m_impl_Decimal d0.value).bind fun y353=>((catS (ByteArray.mk #[61]) y353).bind fun s357=>((wrS z19 s357).bind fun x363=>(m_impl_agentText_L6 d0 m_impl_agentText_A6 (d0.ports.length+1) 0 x363)))) else (bif (d0.kind==7) then ((m_impl_OperatorText d0.value).bind fun y291=>((catS (ByteArray.mk #[61]) y291).bind fun s295=>((wrS z19 s295).bind fun x301=>(m_impl_agentText_L5 d0 m_impl_agentText_A5 (d0.ports.length+1) 0 x301)))) else (bif (d0.kind==8) then ((getI d0.data 0).bind fun x212=>((m_impl_OperatorText d0.value).bind fun y221=>((catS (ByteArray.mk #[61]) y221).bind fun s225=>((catS s225 (ByteArray.mk #[44])).bind fun s227=>((m_impl_Decimal x212).bind fun y229=>((catS s227 y229).bind fun s233=>((wrS z19 s233).bind fun x239=>(m_impl_agentText_L4 d0 m_impl_agentText_A4 (d0.ports.length+1) 0 x239)))))))) else (bif (d0.kind==10) then ((m_impl_decimals d0.data).bind fun y144=>((replM y144 (ByteArray.mk #[32]) (ByteArray.mk #[44])).bind fun y148=>((catS (ByteArray.mk #[61]) y148).bind fun s152=>((wrS z19 s152).bind fun x158=>(m_impl_agentText_L3 d0 m_impl_agentText_A3 (d0.ports.length+1) 0 x158))))) else (bif (d0.kind==11) then ((m_impl_decimals d0.data).bind fun y78=>((replM y78 (ByteArray.mk #[32]) (ByteArray.mk #[44])).bind fun y82=>((catS (ByteArray.mk #[61]) y82).bind fun s86=>((wrS z19 s86).bind fun x92=>(m_impl_agentText_L2 d0 m_impl_agentText_A2 (d0.ports.length+1) 0 x92))))) else (m_impl_agentText_L1 d0 m_impl_agentText_A1 (d0.ports.length+1) 0 z19))))))
def m_impl_agentText_Aj1 (d0:DAgent) (z19:ByteArray):Option ByteArray:=
  (bif (d0.kind==6) then (m_impl_agentText_Aj2 d0 z19 (d0.kind==6)) else (bif (d0.kind==9) then (m_impl_agentText_Aj2 d0 z19 (d0.kind==9)) else (m_impl_agentText_Aj2 d0 z19 (d0.kind==12))))
def m_impl_agentText (d0:DAgent):Option ByteArray:=
  ((wrS (ByteArray.mk #[]) (kindName d0.kind)).bind fun x17=>(bif (hasLevel d0.kind) then ((m_impl_Decimal d0.level).bind fun y420=>((catS (ByteArray.mk #[47]) y420).bind fun s424=>((wrS x17 s424).bind fun x430=>(m_impl_agentText_Aj1 d0 x430)))) else (m_impl_agentText_Aj1 d0 x17)))
set_option maxHeartbeats 2000000 in
theorem c_m_impl_agentText (d0:DAgent) (r:ByteArray) (hm:m_impl_agentText d0=some r) (v0:Value) (w:World) (hW:WD w) (hv0:St agentRd w v0 d0) :
    Calls Tryz.prog 38 #[v0] w fun e w'=>e=.returned (.string r)∧Below w.heap.size w w':=by
  obtain ⟨csa0,rfl,⟨A1,n1,c1,A2,n2,c2,rfl,⟨h1,r1⟩,⟨h2,r2⟩⟩⟩:=hv0
  have e1:=h1.len; subst e1
  have q1:=len_le r1
  have e2:=h2.len; subst e2
  have q2:=len_le r2
  have T:=Below.refl w.heap.size w
  unfold m_impl_agentText at hm
  refine enter 78 Tryz.func38 rfl rfl rfl ?_
  intro f hf
  have s0:f 0=.agg #[.int .i64 d0.kind,.int .i64 d0.level,.int .i64 d0.value,.slice A1 d0.data.length c1,.slice A2 d0.ports.length c2]:=hf 0 _ rfl
  refine wp_seq<|wp_rl rfl ?_
  refine RL.box rfl s0 (fun w3 B4 hb5 szw3=>?_)
  replace B4:Blk w3 w.heap.size 49 #[.int .i64 d0.kind,.int .i64 d0.level,.int .i64 d0.value,.slice A1 d0.data.length c1,.slice A2 d0.ports.length c2]:=B4
  have GB4:w.heap.size≤w.heap.size:=T.size
  have T:=Tt T hb5
  refine RL.y rfl (Y.assign (v:=.string (ByteArray.mk #[])) rfl)<|RL.nil<|then_n<|wp_seq<|wp_rl rfl ?_
  refine RL.bldNew rfl (fun w7 B8 hb9 szw7=>?_)
  have GB8:w.heap.size≤w3.heap.size:=T.size
  have Eob10_ob6:=Nat.ne_of_lt B4.lt
  have LTob10_ob6:=B4.lt
  have B4:=blkT B4 hb9
  have T:=Tt T hb9
  refine RL.nil<|then_n<|wp_seq<|wp_rl rfl<|RL.y rfl (Y.fieldAddr (off:=0) rfl (by kernel_rfl))<|RL.y rfl (Y.load (v:=.int .i64 d0.kind) rfl (by kernel_rfl) (eqC (blkCell B4 (i:=0) rfl))) ?_
  refine RL.call rfl (am1 rfl) (by kernel_rfl) ((impl_KindName d0.kind _ (WD.below hW T).kinds).mono ?_)
  rintro _ w11 ⟨rfl,hb12⟩
  refine ⟨_,rfl,?_⟩
  have szw11:=hb12.size
  have B4:=blkT B4 hb12
  have B8:=OwB.below B8 hb12
  have T:=Tt T hb12
  obtain ⟨x17,e18,hm⟩:=bnd hm
  refine RL.call rfl (am2 rfl rfl) (by kernel_rfl) ((c_bldWrite B8 e18).mono ?_)
  rintro _ w13 ⟨rfl,B14,hb15,ho16⟩
  refine ⟨_,rfl,?_⟩
  have szw13:=hb15.size
  have B4:=blkLt B4 hb15 LTob10_ob6
  have T:=T.trans (Below.dn hb15 GB8)
  refine RL.nil<|then_n<|cutRest (K:=(fun f w'=>∃(z19:ByteArray),f 1=.pointer (some ⟨w.heap.size,0,none⟩)∧f 3=.pointer (some ⟨w3.heap.size,0,none⟩)∧OwB w' w3.heap.size z19∧Blk w' w.heap.size 49 #[.int .i64 d0.kind,.int .i64 d0.level,.int .i64 d0.value,.slice A1 d0.data.length c1,.slice A2 d0.ports.length c2]∧Below w.heap.size w w'∧m_impl_agentText_Aj1 d0 z19=some r)) ?_ ?_
  ·rintro f w20 ⟨z19,s1_j1x,s3_j1x,Bz19,B4,T,hm⟩
   unfold m_impl_agentText_Aj1 at hm
   refine wp_seq<|wp_seq<|wp_rs rfl<|RQ.y rfl (Y.fieldAddr (off:=0) s1_j1x (by kernel_rfl))<|RQ.y rfl (Y.load (v:=.int .i64 d0.kind) rfl (by kernel_rfl) (eqC (blkCell B4 (i:=0) rfl)))<|RQ.nil<|then_n<|wp_block<|cutRest (K:=(fun f w'=>∃(b21:Bool),f 1=.pointer (some ⟨w.heap.size,0,none⟩)∧f 3=.pointer (some ⟨w3.heap.size,0,none⟩)∧f 19=.int .i64 d0.kind∧f 20=.bool b21∧Blk w' w.heap.size 49 #[.int .i64 d0.kind,.int .i64 d0.level,.int .i64 d0.value,.slice A1 d0.data.length c1,.slice A2 d0.ports.length c2]∧OwB w' w3.heap.size z19∧Below w.heap.size w w'∧m_impl_agentText_Aj2 d0 z19 b21=some r)) ?_ ?_
   ·rintro f w22 ⟨b21,s1_j2x,s3_j2x,s19_j2x,s20_j2x,B4,Bz19,T,hm⟩
    unfold m_impl_agentText_Aj2 at hm
    rcases bcases b21 with c23|c23
    ·replace hm:=cF c23 hm
     refine cond_f rfl (vb s20_j2x c23)<|wp_seq<|wp_rs rfl<|RQ.y rfl (Y.binI (v:=.bool (d0.kind==7)) s19_j2x rfl rfl)<|RQ.y rfl (Y.assign (v:=.bool (d0.kind==7)) rfl)<|RQ.nil<|then_n ?_
     rcases bcases (d0.kind==7) with c24|c24
     ·replace hm:=cF c24 hm
      refine cond_f rfl (vb rfl c24)<|wp_seq<|wp_rs rfl<|RQ.y rfl (Y.binI (v:=.bool (d0.kind==8)) s19_j2x rfl rfl)<|RQ.y rfl (Y.assign (v:=.bool (d0.kind==8)) rfl)<|RQ.nil<|then_n ?_
      rcases bcases (d0.kind==8) with c25|c25
      ·replace hm:=cF c25 hm
       refine cond_f rfl (vb rfl c25)<|wp_seq<|wp_seq<|wp_rs rfl<|RQ.y rfl (Y.binI (v:=.bool (d0.kind==10)) s19_j2x rfl rfl)<|RQ.y rfl (Y.assign (v:=.bool (d0.kind==10)) rfl)<|RQ.nil<|then_n ?_
       rcases bcases (d0.kind==10) with c26|c26
       ·replace hm:=cF c26 hm
        refine cond_f rfl (vb rfl c26)<|wp_rs rfl<|RQ.y rfl (Y.binI (v:=.bool (d0.kind==11)) s19_j2x rfl rfl)<|RQ.y rfl (Y.assign (v:=.bool (d0.kind==11)) rfl)<|RQ.nil<|then_n ?_
        rcases bcases (d0.kind==11) with c27|c27
        ·replace hm:=cF c27 hm
         refine cond_f rfl (vb rfl c27)<|wp_skip ?_
         refine blk_n (then_n ?_)
         refine wp_seq<|wp_seq<|wp_rs rfl<|RQ.y rfl (Y.fieldAddr (off:=4) s1_j2x (by kernel_rfl))<|RQ.y rfl (Y.load (v:=.slice A2 d0.ports.length c2) rfl (by kernel_rfl) (eqC (blkCell B4 (i:=4) rfl)))<|RQ.y rfl (Y.len (by kernel_rfl) rfl)<|RQ.y rfl (Y.move (v:=.int .i64 0) rfl)<|RQ.nil<|then_n<|wp_block ?_
         obtain ⟨K1,hK1,hm⟩ :∃K,K=m_impl_agentText_A1∧m_impl_agentText_L1 d0 K (d0.ports.length+1) 0 z19=some r:=⟨_,rfl,hm⟩
         refine wp_loopX (fun g f w'=>∃(i34:Int) (z35:ByteArray),f 3=.pointer (some ⟨w3.heap.size,0,none⟩)∧f 60=.slice A2 d0.ports.length c2∧f 61=.int .i64 (d0.ports.length:Int)∧f 62=.int .i64 i34∧0≤i34∧OwB w' w3.heap.size z35∧Below w.heap.size w w'∧m_impl_agentText_L1 d0 K1 g i34 z35=some r) 1 (fun f w'=>∃(z28:ByteArray),f 3=.pointer (some ⟨w3.heap.size,0,none⟩)∧OwB w' w3.heap.size z28∧Below w.heap.size w w'∧m_impl_agentText_A1 z28=some r) (d0.ports.length+1) ⟨0,z19,s3_j2x,rfl,rfl,rfl,(by omega),Bz19,T,hm⟩ ?_ ?_
         ·rintro f w29 ⟨z28,s3_1x,Bz28,T,hm⟩
          unfold m_impl_agentText_A1 at hm
          refine blk_hit (then_n ?_)
          refine wp_seq<|wp_rl rfl ?_
          refine RL.call rfl (am1 s3_1x) (by kernel_rfl) ((c_bldString Bz28).mono ?_)
          rintro _ w30 ⟨rfl,hb32⟩
          refine ⟨_,rfl,?_⟩
          have szw30:=hb32.size
          have T:=T.trans (Below.dn hb32 GB8)
          refine RL.y rfl (Y.assign (v:=.string z28) rfl)<|RL.nil<|then_n<|wp_ret ?_
          obtain rfl:=sj hm
          exact (ret1 rfl rfl rfl ⟨rfl,T⟩)
         rintro g f w36 ⟨i34,z35,s3_1,s60_1,s61_1,s62_1,nn62_1,Bz35,T,hm⟩
         rcases g with _|g
         ·simp only [m_impl_agentText_L1] at hm; cases hm
         obtain ⟨rec1,hrec1,hm⟩ :∃z,z=m_impl_agentText_L1 d0 K1 g∧m_impl_agentText_B1 d0 z K1 i34 z35=some r:=⟨_,rfl,hm⟩
         unfold m_impl_agentText_B1 at hm
         refine wp_seq<|wp_rs rfl<|RQ.y rfl (Y.binI (v:=.bool (decide (i34 < (d0.ports.length:Int)))) s62_1 s61_1 rfl)<|RQ.nil<|then_n<|wp_seq ?_
         rcases bcases (decide (i34 < (d0.ports.length:Int))) with c37|c37
         ·replace hm:=cF c37 hm
          have pc37:=of_decide_eq_false c37
          refine cond_f rfl (vb rfl c37)<|wp_exit ?_
          exact (then_x (then_x (hit_x ⟨_,rfl,⟨z35,s3_1,Bz35,T,(by rw [hK1] at hm; exact hm)⟩⟩)))
         replace hm:=cT c37 hm
         have pc37:=of_decide_eq_true c37
         refine cond_t rfl (vb rfl c37)<|wp_skip<|then_n<|wp_seq<|wp_block<|wp_seq<|wp_rl rfl ?_
         obtain ⟨x38,hx41,hm⟩:=bnd hm
         obtain ⟨k39,hk42,hl43,hx41⟩:=getI_some hx41
         obtain ⟨b45,o46,rfl,hbb45⟩:=h2.addr (by omega)
         obtain ⟨cs40,hRcs40,hc44⟩:=h2.el hx41
         have hScs40:=hRcs40
         obtain rfl:=hRcs40
         refine RL.y rfl (Y.indexAddr (m:=k39) (sz:=2) s60_1 s62_1 hk42 hl43 (by kernel_rfl))<|RL.y rfl (Y.loadN (cs:=[.int .i64 x38.agent,.int .i64 x38.slot]) rfl (by kernel_rfl) (cells2 (eqC (cellT T (hc44 0 _ rfl))) (eqC (cellT T (hc44 1 _ rfl))))) ?_
         refine RL.alloc (z:=.agg #[.int .i64 0,.int .i64 0]) rfl (by kernel_rfl) (fun w47 B48 hb49 szw47=>?_)
         replace B48:Blk w47 w36.heap.size 61 #[.int .i64 0,.int .i64 0]:=B48
         have GB48:w.heap.size≤w36.heap.size:=T.size
         have Eob50_ob10:=Nat.ne_of_lt Bz35.lt
         have NA51:=BufNe.below (OwB.far Bz35 (Nat.le_refl _)) hb49 (OwB.lt Bz35)
         have Bz35:=OwB.below Bz35 hb49
         have T:=Tt T hb49
         refine RL.store (v:=.agg #[.int .i64 x38.agent,.int .i64 x38.slot]) (cs':=#[.int .i64 x38.agent,.int .i64 x38.slot]) rfl rfl rfl B48 (by kernel_rfl) (by rfl) (by rfl) (by rfl) (fun w52 B53 ho54=>?_)
         have szw52:=ho54.size
         have NBw52_ob10:=BufNe.only NA51 ho54 (by intro hin; simp at hin; exact Eob50_ob10 hin)
         have Bz35:=Bz35.only ho54 (by intro hin; simp at hin; exact Eob50_ob10 hin) NA51
         have NA51:=NBw52_ob10
         have T:=T.trans (ho54.below (by first|(simp; done)|(simp; omega)))
         refine RL.nil<|then_n ?_
         refine wp_rg (fun w'=>Below w.heap.size w w'∧Blk w' w36.heap.size 61 #[.int .i64 x38.agent,.int .i64 x38.slot]) [(0,true),(1,true),(5,true),(6,true),(2,false),(3,true),(4,true),(7,false),(8,true),(9,false)] (by kernel_rfl) (by kernel_rfl) (fun w55 hb56 szw55=>?_)
         have NA51:=BufNe.below NA51 hb56 (OwB.lt Bz35)
         have Bz35:=OwB.below Bz35 hb56
         have B53:=blkT B53 hb56
         have T:=Tt T hb56
         refine ⟨⟨T,B53⟩,?_⟩
         refine RG.y rfl rfl (Y.fieldAddr (off:=0) rfl (by kernel_rfl))<|RG.y rfl rfl (Y.load (v:=.int .i64 x38.agent) rfl (by kernel_rfl) (fun w' hS=>(blkCell hS.2 (i:=0) rfl)))<|RG.y rfl rfl (Y.fieldAddr (off:=1) rfl (by kernel_rfl))<|RG.y rfl rfl (Y.load (v:=.int .i64 x38.slot) rfl (by kernel_rfl) (fun w' hS=>(blkCell hS.2 (i:=1) rfl)))<|RG.act rfl ?_
         obtain ⟨y57,e58,hm⟩:=bnd hm
         refine RL.call rfl (am1 rfl) (by kernel_rfl) ((c_m_impl_Decimal x38.agent _ e58  _ (WD.below hW T) ).mono ?_)
         rintro _ w59 ⟨rfl,hb60⟩
         refine ⟨_,rfl,?_⟩
         have szw59:=hb60.size
         have NA51:=BufNe.below NA51 hb60 (OwB.lt Bz35)
         have Bz35:=OwB.below Bz35 hb60
         have B53:=blkT B53 hb60
         have T:=Tt T hb60
         refine RL.nil ⟨⟨T,B53⟩,?_⟩
         obtain ⟨s61,k62,hm⟩:=bnd hm
         refine RG.y rfl rfl (Y.catS (s:=s61) rfl rfl k62) ?_
         obtain ⟨s63,k64,hm⟩:=bnd hm
         refine RG.y rfl rfl (Y.catS (s:=s63) rfl rfl k64)<|RG.act rfl ?_
         obtain ⟨y65,e66,hm⟩:=bnd hm
         refine RL.call rfl (am1 rfl) (by kernel_rfl) ((c_m_impl_Decimal x38.slot _ e66  _ (WD.below hW T) ).mono ?_)
         rintro _ w67 ⟨rfl,hb68⟩
         refine ⟨_,rfl,?_⟩
         have szw67:=hb68.size
         have NA51:=BufNe.below NA51 hb68 (OwB.lt Bz35)
         have Bz35:=OwB.below Bz35 hb68
         have B53:=blkT B53 hb68
         have T:=Tt T hb68
         refine RL.nil ⟨⟨T,B53⟩,?_⟩
         obtain ⟨s69,k70,hm⟩:=bnd hm
         refine RG.y rfl rfl (Y.catS (s:=s69) rfl rfl k70)<|RG.act rfl ?_
         obtain ⟨x75,e76,hm⟩:=bnd hm
         refine RL.call rfl (am2 s3_1 rfl) (by kernel_rfl) ((c_bldWrite Bz35 e76).mono ?_)
         rintro _ w71 ⟨rfl,B72,hb73,ho74⟩
         refine ⟨_,rfl,?_⟩
         have szw71:=hb73.size
         have B53:=(ho74 _ B53.lt (Ne.symm Eob50_ob10) NA51).trans B53
         have T:=T.trans (Below.dn hb73 GB8)
         refine RL.nil ⟨⟨T,B53⟩,?_⟩
         refine RG.nil ?_
         refine blk_n (then_n ?_)
         refine wp_rs rfl<|RQ.y rfl (Y.binI s62_1 rfl (binI_add (m:=i34) (by omega)))<|RQ.y rfl (Y.move (v:=.int .i64 (i34+1)) rfl)<|RQ.nil ?_
         exact (then_n ⟨g,_,Nat.lt_succ_self _,rfl,⟨(i34+1),x75,s3_1,s60_1,s61_1,rfl,(by omega),B72,T,(by rw [← hrec1]; exact hm)⟩⟩)
        replace hm:=cT c27 hm
        refine cond_t rfl (vb rfl c27)<|wp_rl rfl<|RL.y rfl (Y.fieldAddr (off:=3) s1_j2x (by kernel_rfl))<|RL.y rfl (Y.load (v:=.slice A1 d0.data.length c1) rfl (by kernel_rfl) (eqC (blkCell B4 (i:=3) rfl))) ?_
        obtain ⟨y78,e79,hm⟩:=bnd hm
        refine RL.call rfl (am1 rfl) (by kernel_rfl) ((c_m_impl_decimals d0.data _ e79 _ _ (WD.below hW T) (slArg intRd_ok h1 r1 T)).mono ?_)
        rintro _ w80 ⟨rfl,hb81⟩
        refine ⟨_,rfl,?_⟩
        have szw80:=hb81.size
        have B4:=blkT B4 hb81
        have Bz19:=OwB.below Bz19 hb81
        have T:=Tt T hb81
        obtain ⟨y82,e83,hm⟩:=bnd hm
        refine RL.call rfl (am3 rfl rfl rfl) (by kernel_rfl) ((c_replM y78 (ByteArray.mk #[32]) (ByteArray.mk #[44]) _ e83  _ (WD.below hW T) ).mono ?_)
        rintro _ w84 ⟨rfl,hb85⟩
        refine ⟨_,rfl,?_⟩
        have szw84:=hb85.size
        have B4:=blkT B4 hb85
        have Bz19:=OwB.below Bz19 hb85
        have T:=Tt T hb85
        obtain ⟨s86,k87,hm⟩:=bnd hm
        refine RL.y rfl (Y.catS (s:=s86) rfl rfl k87) ?_
        obtain ⟨x92,e93,hm⟩:=bnd hm
        refine RL.call rfl (am2 s3_j2x rfl) (by kernel_rfl) ((c_bldWrite Bz19 e93).mono ?_)
        rintro _ w88 ⟨rfl,B89,hb90,ho91⟩
        refine ⟨_,rfl,?_⟩
        have szw88:=hb90.size
        have B4:=blkLt B4 hb90 LTob10_ob6
        have T:=T.trans (Below.dn hb90 GB8)
        refine RL.nil ?_
        refine blk_n (then_n ?_)
        refine wp_seq<|wp_seq<|wp_rs rfl<|RQ.y rfl (Y.fieldAddr (off:=4) s1_j2x (by kernel_rfl))<|RQ.y rfl (Y.load (v:=.slice A2 d0.ports.length c2) rfl (by kernel_rfl) (eqC (blkCell B4 (i:=4) rfl)))<|RQ.y rfl (Y.len (by kernel_rfl) rfl)<|RQ.y rfl (Y.move (v:=.int .i64 0) rfl)<|RQ.nil<|then_n<|wp_block ?_
        obtain ⟨K2,hK2,hm⟩ :∃K,K=m_impl_agentText_A2∧m_impl_agentText_L2 d0 K (d0.ports.length+1) 0 x92=some r:=⟨_,rfl,hm⟩
        refine wp_loopX (fun g f w'=>∃(i100:Int) (z101:ByteArray),f 3=.pointer (some ⟨w3.heap.size,0,none⟩)∧f 60=.slice A2 d0.ports.length c2∧f 61=.int .i64 (d0.ports.length:Int)∧f 62=.int .i64 i100∧0≤i100∧OwB w' w3.heap.size z101∧Below w.heap.size w w'∧m_impl_agentText_L2 d0 K2 g i100 z101=some r) 1 (fun f w'=>∃(z94:ByteArray),f 3=.pointer (some ⟨w3.heap.size,0,none⟩)∧OwB w' w3.heap.size z94∧Below w.heap.size w w'∧m_impl_agentText_A2 z94=some r) (d0.ports.length+1) ⟨0,x92,s3_j2x,rfl,rfl,rfl,(by omega),B89,T,hm⟩ ?_ ?_
        ·rintro f w95 ⟨z94,s3_2x,Bz94,T,hm⟩
         unfold m_impl_agentText_A2 at hm
         refine blk_hit (then_n ?_)
         refine wp_seq<|wp_rl rfl ?_
         refine RL.call rfl (am1 s3_2x) (by kernel_rfl) ((c_bldString Bz94).mono ?_)
         rintro _ w96 ⟨rfl,hb98⟩
         refine ⟨_,rfl,?_⟩
         have szw96:=hb98.size
         have T:=T.trans (Below.dn hb98 GB8)
         refine RL.y rfl (Y.assign (v:=.string z94) rfl)<|RL.nil<|then_n<|wp_ret ?_
         obtain rfl:=sj hm
         exact (ret1 rfl rfl rfl ⟨rfl,T⟩)
        rintro g f w102 ⟨i100,z101,s3_2,s60_2,s61_2,s62_2,nn62_2,Bz101,T,hm⟩
        rcases g with _|g
        ·simp only [m_impl_agentText_L2] at hm; cases hm
        obtain ⟨rec2,hrec2,hm⟩ :∃z,z=m_impl_agentText_L2 d0 K2 g∧m_impl_agentText_B2 d0 z K2 i100 z101=some r:=⟨_,rfl,hm⟩
        unfold m_impl_agentText_B2 at hm
        refine wp_seq<|wp_rs rfl<|RQ.y rfl (Y.binI (v:=.bool (decide (i100 < (d0.ports.length:Int)))) s62_2 s61_2 rfl)<|RQ.nil<|then_n<|wp_seq ?_
        rcases bcases (decide (i100 < (d0.ports.length:Int))) with c103|c103
        ·replace hm:=cF c103 hm
         have pc103:=of_decide_eq_false c103
         refine cond_f rfl (vb rfl c103)<|wp_exit ?_
         exact (then_x (then_x (hit_x ⟨_,rfl,⟨z101,s3_2,Bz101,T,(by rw [hK2] at hm; exact hm)⟩⟩)))
        replace hm:=cT c103 hm
        have pc103:=of_decide_eq_true c103
        refine cond_t rfl (vb rfl c103)<|wp_skip<|then_n<|wp_seq<|wp_block<|wp_seq<|wp_rl rfl ?_
        obtain ⟨x104,hx107,hm⟩:=bnd hm
        obtain ⟨k105,hk108,hl109,hx107⟩:=getI_some hx107
        obtain ⟨b111,o112,rfl,hbb111⟩:=h2.addr (by omega)
        obtain ⟨cs106,hRcs106,hc110⟩:=h2.el hx107
        have hScs106:=hRcs106
        obtain rfl:=hRcs106
        refine RL.y rfl (Y.indexAddr (m:=k105) (sz:=2) s60_2 s62_2 hk108 hl109 (by kernel_rfl))<|RL.y rfl (Y.loadN (cs:=[.int .i64 x104.agent,.int .i64 x104.slot]) rfl (by kernel_rfl) (cells2 (eqC (cellT T (hc110 0 _ rfl))) (eqC (cellT T (hc110 1 _ rfl))))) ?_
        refine RL.alloc (z:=.agg #[.int .i64 0,.int .i64 0]) rfl (by kernel_rfl) (fun w113 B114 hb115 szw113=>?_)
        replace B114:Blk w113 w102.heap.size 61 #[.int .i64 0,.int .i64 0]:=B114
        have GB114:w.heap.size≤w102.heap.size:=T.size
        have Eob116_ob10:=Nat.ne_of_lt Bz101.lt
        have NA117:=BufNe.below (OwB.far Bz101 (Nat.le_refl _)) hb115 (OwB.lt Bz101)
        have Bz101:=OwB.below Bz101 hb115
        have T:=Tt T hb115
        refine RL.store (v:=.agg #[.int .i64 x104.agent,.int .i64 x104.slot]) (cs':=#[.int .i64 x104.agent,.int .i64 x104.slot]) rfl rfl rfl B114 (by kernel_rfl) (by rfl) (by rfl) (by rfl) (fun w118 B119 ho120=>?_)
        have szw118:=ho120.size
        have NBw118_ob10:=BufNe.only NA117 ho120 (by intro hin; simp at hin; exact Eob116_ob10 hin)
        have Bz101:=Bz101.only ho120 (by intro hin; simp at hin; exact Eob116_ob10 hin) NA117
        have NA117:=NBw118_ob10
        have T:=T.trans (ho120.below (by first|(simp; done)|(simp; omega)))
        refine RL.nil<|then_n ?_
        refine wp_rg (fun w'=>Below w.heap.size w w'∧Blk w' w102.heap.size 61 #[.int .i64 x104.agent,.int .i64 x104.slot]) [(0,true),(1,true),(5,true),(6,true),(2,false),(3,true),(4,true),(7,false),(8,true),(9,false)] (by kernel_rfl) (by kernel_rfl) (fun w121 hb122 szw121=>?_)
        have NA117:=BufNe.below NA117 hb122 (OwB.lt Bz101)
        have Bz101:=OwB.below Bz101 hb122
        have B119:=blkT B119 hb122
        have T:=Tt T hb122
        refine ⟨⟨T,B119⟩,?_⟩
        refine RG.y rfl rfl (Y.fieldAddr (off:=0) rfl (by kernel_rfl))<|RG.y rfl rfl (Y.load (v:=.int .i64 x104.agent) rfl (by kernel_rfl) (fun w' hS=>(blkCell hS.2 (i:=0) rfl)))<|RG.y rfl rfl (Y.fieldAddr (off:=1) rfl (by kernel_rfl))<|RG.y rfl rfl (Y.load (v:=.int .i64 x104.slot) rfl (by kernel_rfl) (fun w' hS=>(blkCell hS.2 (i:=1) rfl)))<|RG.act rfl ?_
        obtain ⟨y123,e124,hm⟩:=bnd hm
        refine RL.call rfl (am1 rfl) (by kernel_rfl) ((c_m_impl_Decimal x104.agent _ e124  _ (WD.below hW T) ).mono ?_)
        rintro _ w125 ⟨rfl,hb126⟩
        refine ⟨_,rfl,?_⟩
        have szw125:=hb126.size
        have NA117:=BufNe.below NA117 hb126 (OwB.lt Bz101)
        have Bz101:=OwB.below Bz101 hb126
        have B119:=blkT B119 hb126
        have T:=Tt T hb126
        refine RL.nil ⟨⟨T,B119⟩,?_⟩
        obtain ⟨s127,k128,hm⟩:=bnd hm
        refine RG.y rfl rfl (Y.catS (s:=s127) rfl rfl k128) ?_
        obtain ⟨s129,k130,hm⟩:=bnd hm
        refine RG.y rfl rfl (Y.catS (s:=s129) rfl rfl k130)<|RG.act rfl ?_
        obtain ⟨y131,e132,hm⟩:=bnd hm
        refine RL.call rfl (am1 rfl) (by kernel_rfl) ((c_m_impl_Decimal x104.slot _ e132  _ (WD.below hW T) ).mono ?_)
        rintro _ w133 ⟨rfl,hb134⟩
        refine ⟨_,rfl,?_⟩
        have szw133:=hb134.size
        have NA117:=BufNe.below NA117 hb134 (OwB.lt Bz101)
        have Bz101:=OwB.below Bz101 hb134
        have B119:=blkT B119 hb134
        have T:=Tt T hb134
        refine RL.nil ⟨⟨T,B119⟩,?_⟩
        obtain ⟨s135,k136,hm⟩:=bnd hm
        refine RG.y rfl rfl (Y.catS (s:=s135) rfl rfl k136)<|RG.act rfl ?_
        obtain ⟨x141,e142,hm⟩:=bnd hm
        refine RL.call rfl (am2 s3_2 rfl) (by kernel_rfl) ((c_bldWrite Bz101 e142).mono ?_)
        rintro _ w137 ⟨rfl,B138,hb139,ho140⟩
        refine ⟨_,rfl,?_⟩
        have szw137:=hb139.size
        have B119:=(ho140 _ B119.lt (Ne.symm Eob116_ob10) NA117).trans B119
        have T:=T.trans (Below.dn hb139 GB8)
        refine RL.nil ⟨⟨T,B119⟩,?_⟩
        refine RG.nil ?_
        refine blk_n (then_n ?_)
        refine wp_rs rfl<|RQ.y rfl (Y.binI s62_2 rfl (binI_add (m:=i100) (by omega)))<|RQ.y rfl (Y.move (v:=.int .i64 (i100+1)) rfl)<|RQ.nil ?_
        exact (then_n ⟨g,_,Nat.lt_succ_self _,rfl,⟨(i100+1),x141,s3_2,s60_2,s61_2,rfl,(by omega),B138,T,(by rw [← hrec2]; exact hm)⟩⟩)
       replace hm:=cT c26 hm
       refine cond_t rfl (vb rfl c26)<|wp_skip<|then_n<|cond_t rfl (vb rfl c26)<|wp_rl rfl<|RL.y rfl (Y.fieldAddr (off:=3) s1_j2x (by kernel_rfl))<|RL.y rfl (Y.load (v:=.slice A1 d0.data.length c1) rfl (by kernel_rfl) (eqC (blkCell B4 (i:=3) rfl))) ?_
       obtain ⟨y144,e145,hm⟩:=bnd hm
       refine RL.call rfl (am1 rfl) (by kernel_rfl) ((c_m_impl_decimals d0.data _ e145 _ _ (WD.below hW T) (slArg intRd_ok h1 r1 T)).mono ?_)
       rintro _ w146 ⟨rfl,hb147⟩
       refine ⟨_,rfl,?_⟩
       have szw146:=hb147.size
       have B4:=blkT B4 hb147
       have Bz19:=OwB.below Bz19 hb147
       have T:=Tt T hb147
       obtain ⟨y148,e149,hm⟩:=bnd hm
       refine RL.call rfl (am3 rfl rfl rfl) (by kernel_rfl) ((c_replM y144 (ByteArray.mk #[32]) (ByteArray.mk #[44]) _ e149  _ (WD.below hW T) ).mono ?_)
       rintro _ w150 ⟨rfl,hb151⟩
       refine ⟨_,rfl,?_⟩
       have szw150:=hb151.size
       have B4:=blkT B4 hb151
       have Bz19:=OwB.below Bz19 hb151
       have T:=Tt T hb151
       obtain ⟨s152,k153,hm⟩:=bnd hm
       refine RL.y rfl (Y.catS (s:=s152) rfl rfl k153) ?_
       obtain ⟨x158,e159,hm⟩:=bnd hm
       refine RL.call rfl (am2 s3_j2x rfl) (by kernel_rfl) ((c_bldWrite Bz19 e159).mono ?_)
       rintro _ w154 ⟨rfl,B155,hb156,ho157⟩
       refine ⟨_,rfl,?_⟩
       have szw154:=hb156.size
       have B4:=blkLt B4 hb156 LTob10_ob6
       have T:=T.trans (Below.dn hb156 GB8)
       refine RL.nil ?_
       refine blk_n (then_n ?_)
       refine wp_seq<|wp_seq<|wp_rs rfl<|RQ.y rfl (Y.fieldAddr (off:=4) s1_j2x (by kernel_rfl))<|RQ.y rfl (Y.load (v:=.slice A2 d0.ports.length c2) rfl (by kernel_rfl) (eqC (blkCell B4 (i:=4) rfl)))<|RQ.y rfl (Y.len (by kernel_rfl) rfl)<|RQ.y rfl (Y.move (v:=.int .i64 0) rfl)<|RQ.nil<|then_n<|wp_block ?_
       obtain ⟨K3,hK3,hm⟩ :∃K,K=m_impl_agentText_A3∧m_impl_agentText_L3 d0 K (d0.ports.length+1) 0 x158=some r:=⟨_,rfl,hm⟩
       refine wp_loopX (fun g f w'=>∃(i166:Int) (z167:ByteArray),f 3=.pointer (some ⟨w3.heap.size,0,none⟩)∧f 60=.slice A2 d0.ports.length c2∧f 61=.int .i64 (d0.ports.length:Int)∧f 62=.int .i64 i166∧0≤i166∧OwB w' w3.heap.size z167∧Below w.heap.size w w'∧m_impl_agentText_L3 d0 K3 g i166 z167=some r) 1 (fun f w'=>∃(z160:ByteArray),f 3=.pointer (some ⟨w3.heap.size,0,none⟩)∧OwB w' w3.heap.size z160∧Below w.heap.size w w'∧m_impl_agentText_A3 z160=some r) (d0.ports.length+1) ⟨0,x158,s3_j2x,rfl,rfl,rfl,(by omega),B155,T,hm⟩ ?_ ?_
       ·rintro f w161 ⟨z160,s3_3x,Bz160,T,hm⟩
        unfold m_impl_agentText_A3 at hm
        refine blk_hit (then_n ?_)
        refine wp_seq<|wp_rl rfl ?_
        refine RL.call rfl (am1 s3_3x) (by kernel_rfl) ((c_bldString Bz160).mono ?_)
        rintro _ w162 ⟨rfl,hb164⟩
        refine ⟨_,rfl,?_⟩
        have szw162:=hb164.size
        have T:=T.trans (Below.dn hb164 GB8)
        refine RL.y rfl (Y.assign (v:=.string z160) rfl)<|RL.nil<|then_n<|wp_ret ?_
        obtain rfl:=sj hm
        exact (ret1 rfl rfl rfl ⟨rfl,T⟩)
       rintro g f w168 ⟨i166,z167,s3_3,s60_3,s61_3,s62_3,nn62_3,Bz167,T,hm⟩
       rcases g with _|g
       ·simp only [m_impl_agentText_L3] at hm; cases hm
       obtain ⟨rec3,hrec3,hm⟩ :∃z,z=m_impl_agentText_L3 d0 K3 g∧m_impl_agentText_B3 d0 z K3 i166 z167=some r:=⟨_,rfl,hm⟩
       unfold m_impl_agentText_B3 at hm
       refine wp_seq<|wp_rs rfl<|RQ.y rfl (Y.binI (v:=.bool (decide (i166 < (d0.ports.length:Int)))) s62_3 s61_3 rfl)<|RQ.nil<|then_n<|wp_seq ?_
       rcases bcases (decide (i166 < (d0.ports.length:Int))) with c169|c169
       ·replace hm:=cF c169 hm
        have pc169:=of_decide_eq_false c169
        refine cond_f rfl (vb rfl c169)<|wp_exit ?_
        exact (then_x (then_x (hit_x ⟨_,rfl,⟨z167,s3_3,Bz167,T,(by rw [hK3] at hm; exact hm)⟩⟩)))
       replace hm:=cT c169 hm
       have pc169:=of_decide_eq_true c169
       refine cond_t rfl (vb rfl c169)<|wp_skip<|then_n<|wp_seq<|wp_block<|wp_seq<|wp_rl rfl ?_
       obtain ⟨x170,hx173,hm⟩:=bnd hm
       obtain ⟨k171,hk174,hl175,hx173⟩:=getI_some hx173
       obtain ⟨b177,o178,rfl,hbb177⟩:=h2.addr (by omega)
       obtain ⟨cs172,hRcs172,hc176⟩:=h2.el hx173
       have hScs172:=hRcs172
       obtain rfl:=hRcs172
       refine RL.y rfl (Y.indexAddr (m:=k171) (sz:=2) s60_3 s62_3 hk174 hl175 (by kernel_rfl))<|RL.y rfl (Y.loadN (cs:=[.int .i64 x170.agent,.int .i64 x170.slot]) rfl (by kernel_rfl) (cells2 (eqC (cellT T (hc176 0 _ rfl))) (eqC (cellT T (hc176 1 _ rfl))))) ?_
       refine RL.alloc (z:=.agg #[.int .i64 0,.int .i64 0]) rfl (by kernel_rfl) (fun w179 B180 hb181 szw179=>?_)
       replace B180:Blk w179 w168.heap.size 61 #[.int .i64 0,.int .i64 0]:=B180
       have GB180:w.heap.size≤w168.heap.size:=T.size
       have Eob182_ob10:=Nat.ne_of_lt Bz167.lt
       have NA183:=BufNe.below (OwB.far Bz167 (Nat.le_refl _)) hb181 (OwB.lt Bz167)
       have Bz167:=OwB.below Bz167 hb181
       have T:=Tt T hb181
       refine RL.store (v:=.agg #[.int .i64 x170.agent,.int .i64 x170.slot]) (cs':=#[.int .i64 x170.agent,.int .i64 x170.slot]) rfl rfl rfl B180 (by kernel_rfl) (by rfl) (by rfl) (by rfl) (fun w184 B185 ho186=>?_)
       have szw184:=ho186.size
       have NBw184_ob10:=BufNe.only NA183 ho186 (by intro hin; simp at hin; exact Eob182_ob10 hin)
       have Bz167:=Bz167.only ho186 (by intro hin; simp at hin; exact Eob182_ob10 hin) NA183
       have NA183:=NBw184_ob10
       have T:=T.trans (ho186.below (by first|(simp; done)|(simp; omega)))
       refine RL.nil<|then_n ?_
       refine wp_rg (fun w'=>Below w.heap.size w w'∧Blk w' w168.heap.size 61 #[.int .i64 x170.agent,.int .i64 x170.slot]) [(0,true),(1,true),(5,true),(6,true),(2,false),(3,true),(4,true),(7,false),(8,true),(9,false)] (by kernel_rfl) (by kernel_rfl) (fun w187 hb188 szw187=>?_)
       have NA183:=BufNe.below NA183 hb188 (OwB.lt Bz167)
       have Bz167:=OwB.below Bz167 hb188
       have B185:=blkT B185 hb188
       have T:=Tt T hb188
       refine ⟨⟨T,B185⟩,?_⟩
       refine RG.y rfl rfl (Y.fieldAddr (off:=0) rfl (by kernel_rfl))<|RG.y rfl rfl (Y.load (v:=.int .i64 x170.agent) rfl (by kernel_rfl) (fun w' hS=>(blkCell hS.2 (i:=0) rfl)))<|RG.y rfl rfl (Y.fieldAddr (off:=1) rfl (by kernel_rfl))<|RG.y rfl rfl (Y.load (v:=.int .i64 x170.slot) rfl (by kernel_rfl) (fun w' hS=>(blkCell hS.2 (i:=1) rfl)))<|RG.act rfl ?_
       obtain ⟨y189,e190,hm⟩:=bnd hm
       refine RL.call rfl (am1 rfl) (by kernel_rfl) ((c_m_impl_Decimal x170.agent _ e190  _ (WD.below hW T) ).mono ?_)
       rintro _ w191 ⟨rfl,hb192⟩
       refine ⟨_,rfl,?_⟩
       have szw191:=hb192.size
       have NA183:=BufNe.below NA183 hb192 (OwB.lt Bz167)
       have Bz167:=OwB.below Bz167 hb192
       have B185:=blkT B185 hb192
       have T:=Tt T hb192
       refine RL.nil ⟨⟨T,B185⟩,?_⟩
       obtain ⟨s193,k194,hm⟩:=bnd hm
       refine RG.y rfl rfl (Y.catS (s:=s193) rfl rfl k194) ?_
       obtain ⟨s195,k196,hm⟩:=bnd hm
       refine RG.y rfl rfl (Y.catS (s:=s195) rfl rfl k196)<|RG.act rfl ?_
       obtain ⟨y197,e198,hm⟩:=bnd hm
       refine RL.call rfl (am1 rfl) (by kernel_rfl) ((c_m_impl_Decimal x170.slot _ e198  _ (WD.below hW T) ).mono ?_)
       rintro _ w199 ⟨rfl,hb200⟩
       refine ⟨_,rfl,?_⟩
       have szw199:=hb200.size
       have NA183:=BufNe.below NA183 hb200 (OwB.lt Bz167)
       have Bz167:=OwB.below Bz167 hb200
       have B185:=blkT B185 hb200
       have T:=Tt T hb200
       refine RL.nil ⟨⟨T,B185⟩,?_⟩
       obtain ⟨s201,k202,hm⟩:=bnd hm
       refine RG.y rfl rfl (Y.catS (s:=s201) rfl rfl k202)<|RG.act rfl ?_
       obtain ⟨x207,e208,hm⟩:=bnd hm
       refine RL.call rfl (am2 s3_3 rfl) (by kernel_rfl) ((c_bldWrite Bz167 e208).mono ?_)
       rintro _ w203 ⟨rfl,B204,hb205,ho206⟩
       refine ⟨_,rfl,?_⟩
       have szw203:=hb205.size
       have B185:=(ho206 _ B185.lt (Ne.symm Eob182_ob10) NA183).trans B185
       have T:=T.trans (Below.dn hb205 GB8)
       refine RL.nil ⟨⟨T,B185⟩,?_⟩
       refine RG.nil ?_
       refine blk_n (then_n ?_)
       refine wp_rs rfl<|RQ.y rfl (Y.binI s62_3 rfl (binI_add (m:=i166) (by omega)))<|RQ.y rfl (Y.move (v:=.int .i64 (i166+1)) rfl)<|RQ.nil ?_
       exact (then_n ⟨g,_,Nat.lt_succ_self _,rfl,⟨(i166+1),x207,s3_3,s60_3,s61_3,rfl,(by omega),B204,T,(by rw [← hrec3]; exact hm)⟩⟩)
      replace hm:=cT c25 hm
      refine cond_t rfl (vb rfl c25) ?_
      refine wp_rg (fun w'=>Below w.heap.size w w'∧Blk w' w.heap.size 49 #[.int .i64 d0.kind,.int .i64 d0.level,.int .i64 d0.value,.slice A1 d0.data.length c1,.slice A2 d0.ports.length c2]) [(0,true),(1,true),(5,true),(6,true),(7,true),(8,true),(2,false),(3,true),(4,true),(9,false),(10,true),(11,false)] (by kernel_rfl) (by kernel_rfl) (fun w210 hb211 szw210=>?_)
      have B4:=blkT B4 hb211
      have Bz19:=OwB.below Bz19 hb211
      have T:=Tt T hb211
      refine ⟨⟨T,B4⟩,?_⟩
      refine RG.y rfl rfl (Y.fieldAddr (off:=2) s1_j2x (by kernel_rfl))<|RG.y rfl rfl (Y.load (v:=.int .i64 d0.value) rfl (by kernel_rfl) (fun w' hS=>(blkCell hS.2 (i:=2) rfl)))<|RG.y rfl rfl (Y.fieldAddr (off:=3) s1_j2x (by kernel_rfl))<|RG.y rfl rfl (Y.load (v:=.slice A1 d0.data.length c1) rfl (by kernel_rfl) (fun w' hS=>(blkCell hS.2 (i:=3) rfl))) ?_
      obtain ⟨x212,hx215,hm⟩:=bnd hm
      obtain ⟨k213,hk216,hl217,hx215⟩:=getI_some hx215
      obtain ⟨b219,o220,rfl,hbb219⟩:=h1.addr (by omega)
      obtain ⟨cs214,hRcs214,hc218⟩:=h1.el hx215
      have hScs214:=hRcs214
      obtain rfl:=hRcs214
      refine RG.y rfl rfl (Y.indexAddr (m:=k213) (sz:=1) rfl rfl hk216 hl217 (by kernel_rfl))<|RG.y rfl rfl (Y.load (v:=.int .i64 x212) rfl (by kernel_rfl) (fun w' hS=>(cellT hS.1 (hc218 0 _ rfl))))<|RG.act rfl ?_
      obtain ⟨y221,e222,hm⟩:=bnd hm
      refine RL.call rfl (am1 rfl) (by kernel_rfl) ((c_m_impl_OperatorText d0.value _ e222  _ ).mono ?_)
      rintro _ w223 ⟨rfl,hb224⟩
      refine ⟨_,rfl,?_⟩
      have szw223:=hb224.size
      have B4:=blkT B4 hb224
      have Bz19:=OwB.below Bz19 hb224
      have T:=Tt T hb224
      refine RL.nil ⟨⟨T,B4⟩,?_⟩
      obtain ⟨s225,k226,hm⟩:=bnd hm
      refine RG.y rfl rfl (Y.catS (s:=s225) rfl rfl k226) ?_
      obtain ⟨s227,k228,hm⟩:=bnd hm
      refine RG.y rfl rfl (Y.catS (s:=s227) rfl rfl k228)<|RG.act rfl ?_
      obtain ⟨y229,e230,hm⟩:=bnd hm
      refine RL.call rfl (am1 rfl) (by kernel_rfl) ((c_m_impl_Decimal x212 _ e230  _ (WD.below hW T) ).mono ?_)
      rintro _ w231 ⟨rfl,hb232⟩
      refine ⟨_,rfl,?_⟩
      have szw231:=hb232.size
      have B4:=blkT B4 hb232
      have Bz19:=OwB.below Bz19 hb232
      have T:=Tt T hb232
      refine RL.nil ⟨⟨T,B4⟩,?_⟩
      obtain ⟨s233,k234,hm⟩:=bnd hm
      refine RG.y rfl rfl (Y.catS (s:=s233) rfl rfl k234)<|RG.act rfl ?_
      obtain ⟨x239,e240,hm⟩:=bnd hm
      refine RL.call rfl (am2 s3_j2x rfl) (by kernel_rfl) ((c_bldWrite Bz19 e240).mono ?_)
      rintro _ w235 ⟨rfl,B236,hb237,ho238⟩
      refine ⟨_,rfl,?_⟩
      have szw235:=hb237.size
      have B4:=blkLt B4 hb237 LTob10_ob6
      have T:=T.trans (Below.dn hb237 GB8)
      refine RL.nil ⟨⟨T,B4⟩,?_⟩
      refine RG.nil ?_
      refine blk_n (then_n ?_)
      refine wp_seq<|wp_seq<|wp_rs rfl<|RQ.y rfl (Y.fieldAddr (off:=4) s1_j2x (by kernel_rfl))<|RQ.y rfl (Y.load (v:=.slice A2 d0.ports.length c2) rfl (by kernel_rfl) (eqC (blkCell B4 (i:=4) rfl)))<|RQ.y rfl (Y.len (by kernel_rfl) rfl)<|RQ.y rfl (Y.move (v:=.int .i64 0) rfl)<|RQ.nil<|then_n<|wp_block ?_
      obtain ⟨K4,hK4,hm⟩ :∃K,K=m_impl_agentText_A4∧m_impl_agentText_L4 d0 K (d0.ports.length+1) 0 x239=some r:=⟨_,rfl,hm⟩
      refine wp_loopX (fun g f w'=>∃(i247:Int) (z248:ByteArray),f 3=.pointer (some ⟨w3.heap.size,0,none⟩)∧f 60=.slice A2 d0.ports.length c2∧f 61=.int .i64 (d0.ports.length:Int)∧f 62=.int .i64 i247∧0≤i247∧OwB w' w3.heap.size z248∧Below w.heap.size w w'∧m_impl_agentText_L4 d0 K4 g i247 z248=some r) 1 (fun f w'=>∃(z241:ByteArray),f 3=.pointer (some ⟨w3.heap.size,0,none⟩)∧OwB w' w3.heap.size z241∧Below w.heap.size w w'∧m_impl_agentText_A4 z241=some r) (d0.ports.length+1) ⟨0,x239,s3_j2x,rfl,rfl,rfl,(by omega),B236,T,hm⟩ ?_ ?_
      ·rintro f w242 ⟨z241,s3_4x,Bz241,T,hm⟩
       unfold m_impl_agentText_A4 at hm
       refine blk_hit (then_n ?_)
       refine wp_seq<|wp_rl rfl ?_
       refine RL.call rfl (am1 s3_4x) (by kernel_rfl) ((c_bldString Bz241).mono ?_)
       rintro _ w243 ⟨rfl,hb245⟩
       refine ⟨_,rfl,?_⟩
       have szw243:=hb245.size
       have T:=T.trans (Below.dn hb245 GB8)
       refine RL.y rfl (Y.assign (v:=.string z241) rfl)<|RL.nil<|then_n<|wp_ret ?_
       obtain rfl:=sj hm
       exact (ret1 rfl rfl rfl ⟨rfl,T⟩)
      rintro g f w249 ⟨i247,z248,s3_4,s60_4,s61_4,s62_4,nn62_4,Bz248,T,hm⟩
      rcases g with _|g
      ·simp only [m_impl_agentText_L4] at hm; cases hm
      obtain ⟨rec4,hrec4,hm⟩ :∃z,z=m_impl_agentText_L4 d0 K4 g∧m_impl_agentText_B4 d0 z K4 i247 z248=some r:=⟨_,rfl,hm⟩
      unfold m_impl_agentText_B4 at hm
      refine wp_seq<|wp_rs rfl<|RQ.y rfl (Y.binI (v:=.bool (decide (i247 < (d0.ports.length:Int)))) s62_4 s61_4 rfl)<|RQ.nil<|then_n<|wp_seq ?_
      rcases bcases (decide (i247 < (d0.ports.length:Int))) with c250|c250
      ·replace hm:=cF c250 hm
       have pc250:=of_decide_eq_false c250
       refine cond_f rfl (vb rfl c250)<|wp_exit ?_
       exact (then_x (then_x (hit_x ⟨_,rfl,⟨z248,s3_4,Bz248,T,(by rw [hK4] at hm; exact hm)⟩⟩)))
      replace hm:=cT c250 hm
      have pc250:=of_decide_eq_true c250
      refine cond_t rfl (vb rfl c250)<|wp_skip<|then_n<|wp_seq<|wp_block<|wp_seq<|wp_rl rfl ?_
      obtain ⟨x251,hx254,hm⟩:=bnd hm
      obtain ⟨k252,hk255,hl256,hx254⟩:=getI_some hx254
      obtain ⟨b258,o259,rfl,hbb258⟩:=h2.addr (by omega)
      obtain ⟨cs253,hRcs253,hc257⟩:=h2.el hx254
      have hScs253:=hRcs253
      obtain rfl:=hRcs253
      refine RL.y rfl (Y.indexAddr (m:=k252) (sz:=2) s60_4 s62_4 hk255 hl256 (by kernel_rfl))<|RL.y rfl (Y.loadN (cs:=[.int .i64 x251.agent,.int .i64 x251.slot]) rfl (by kernel_rfl) (cells2 (eqC (cellT T (hc257 0 _ rfl))) (eqC (cellT T (hc257 1 _ rfl))))) ?_
      refine RL.alloc (z:=.agg #[.int .i64 0,.int .i64 0]) rfl (by kernel_rfl) (fun w260 B261 hb262 szw260=>?_)
      replace B261:Blk w260 w249.heap.size 61 #[.int .i64 0,.int .i64 0]:=B261
      have GB261:w.heap.size≤w249.heap.size:=T.size
      have Eob263_ob10:=Nat.ne_of_lt Bz248.lt
      have NA264:=BufNe.below (OwB.far Bz248 (Nat.le_refl _)) hb262 (OwB.lt Bz248)
      have Bz248:=OwB.below Bz248 hb262
      have T:=Tt T hb262
      refine RL.store (v:=.agg #[.int .i64 x251.agent,.int .i64 x251.slot]) (cs':=#[.int .i64 x251.agent,.int .i64 x251.slot]) rfl rfl rfl B261 (by kernel_rfl) (by rfl) (by rfl) (by rfl) (fun w265 B266 ho267=>?_)
      have szw265:=ho267.size
      have NBw265_ob10:=BufNe.only NA264 ho267 (by intro hin; simp at hin; exact Eob263_ob10 hin)
      have Bz248:=Bz248.only ho267 (by intro hin; simp at hin; exact Eob263_ob10 hin) NA264
      have NA264:=NBw265_ob10
      have T:=T.trans (ho267.below (by first|(simp; done)|(simp; omega)))
      refine RL.nil<|then_n ?_
      refine wp_rg (fun w'=>Below w.heap.size w w'∧Blk w' w249.heap.size 61 #[.int .i64 x251.agent,.int .i64 x251.slot]) [(0,true),(1,true),(5,true),(6,true),(2,false),(3,true),(4,true),(7,false),(8,true),(9,false)] (by kernel_rfl) (by kernel_rfl) (fun w268 hb269 szw268=>?_)
      have NA264:=BufNe.below NA264 hb269 (OwB.lt Bz248)
      have Bz248:=OwB.below Bz248 hb269
      have B266:=blkT B266 hb269
      have T:=Tt T hb269
      refine ⟨⟨T,B266⟩,?_⟩
      refine RG.y rfl rfl (Y.fieldAddr (off:=0) rfl (by kernel_rfl))<|RG.y rfl rfl (Y.load (v:=.int .i64 x251.agent) rfl (by kernel_rfl) (fun w' hS=>(blkCell hS.2 (i:=0) rfl)))<|RG.y rfl rfl (Y.fieldAddr (off:=1) rfl (by kernel_rfl))<|RG.y rfl rfl (Y.load (v:=.int .i64 x251.slot) rfl (by kernel_rfl) (fun w' hS=>(blkCell hS.2 (i:=1) rfl)))<|RG.act rfl ?_
      obtain ⟨y270,e271,hm⟩:=bnd hm
      refine RL.call rfl (am1 rfl) (by kernel_rfl) ((c_m_impl_Decimal x251.agent _ e271  _ (WD.below hW T) ).mono ?_)
      rintro _ w272 ⟨rfl,hb273⟩
      refine ⟨_,rfl,?_⟩
      have szw272:=hb273.size
      have NA264:=BufNe.below NA264 hb273 (OwB.lt Bz248)
      have Bz248:=OwB.below Bz248 hb273
      have B266:=blkT B266 hb273
      have T:=Tt T hb273
      refine RL.nil ⟨⟨T,B266⟩,?_⟩
      obtain ⟨s274,k275,hm⟩:=bnd hm
      refine RG.y rfl rfl (Y.catS (s:=s274) rfl rfl k275) ?_
      obtain ⟨s276,k277,hm⟩:=bnd hm
      refine RG.y rfl rfl (Y.catS (s:=s276) rfl rfl k277)<|RG.act rfl ?_
      obtain ⟨y278,e279,hm⟩:=bnd hm
      refine RL.call rfl (am1 rfl) (by kernel_rfl) ((c_m_impl_Decimal x251.slot _ e279  _ (WD.below hW T) ).mono ?_)
      rintro _ w280 ⟨rfl,hb281⟩
      refine ⟨_,rfl,?_⟩
      have szw280:=hb281.size
      have NA264:=BufNe.below NA264 hb281 (OwB.lt Bz248)
      have Bz248:=OwB.below Bz248 hb281
      have B266:=blkT B266 hb281
      have T:=Tt T hb281
      refine RL.nil ⟨⟨T,B266⟩,?_⟩
      obtain ⟨s282,k283,hm⟩:=bnd hm
      refine RG.y rfl rfl (Y.catS (s:=s282) rfl rfl k283)<|RG.act rfl ?_
      obtain ⟨x288,e289,hm⟩:=bnd hm
      refine RL.call rfl (am2 s3_4 rfl) (by kernel_rfl) ((c_bldWrite Bz248 e289).mono ?_)
      rintro _ w284 ⟨rfl,B285,hb286,ho287⟩
      refine ⟨_,rfl,?_⟩
      have szw284:=hb286.size
      have B266:=(ho287 _ B266.lt (Ne.symm Eob263_ob10) NA264).trans B266
      have T:=T.trans (Below.dn hb286 GB8)
      refine RL.nil ⟨⟨T,B266⟩,?_⟩
      refine RG.nil ?_
      refine blk_n (then_n ?_)
      refine wp_rs rfl<|RQ.y rfl (Y.binI s62_4 rfl (binI_add (m:=i247) (by omega)))<|RQ.y rfl (Y.move (v:=.int .i64 (i247+1)) rfl)<|RQ.nil ?_
      exact (then_n ⟨g,_,Nat.lt_succ_self _,rfl,⟨(i247+1),x288,s3_4,s60_4,s61_4,rfl,(by omega),B285,T,(by rw [← hrec4]; exact hm)⟩⟩)
     replace hm:=cT c24 hm
     refine cond_t rfl (vb rfl c24)<|wp_rl rfl<|RL.y rfl (Y.fieldAddr (off:=2) s1_j2x (by kernel_rfl))<|RL.y rfl (Y.load (v:=.int .i64 d0.value) rfl (by kernel_rfl) (eqC (blkCell B4 (i:=2) rfl))) ?_
     obtain ⟨y291,e292,hm⟩:=bnd hm
     refine RL.call rfl (am1 rfl) (by kernel_rfl) ((c_m_impl_OperatorText d0.value _ e292  _ ).mono ?_)
     rintro _ w293 ⟨rfl,hb294⟩
     refine ⟨_,rfl,?_⟩
     have szw293:=hb294.size
     have B4:=blkT B4 hb294
     have Bz19:=OwB.below Bz19 hb294
     have T:=Tt T hb294
     obtain ⟨s295,k296,hm⟩:=bnd hm
     refine RL.y rfl (Y.catS (s:=s295) rfl rfl k296) ?_
     obtain ⟨x301,e302,hm⟩:=bnd hm
     refine RL.call rfl (am2 s3_j2x rfl) (by kernel_rfl) ((c_bldWrite Bz19 e302).mono ?_)
     rintro _ w297 ⟨rfl,B298,hb299,ho300⟩
     refine ⟨_,rfl,?_⟩
     have szw297:=hb299.size
     have B4:=blkLt B4 hb299 LTob10_ob6
     have T:=T.trans (Below.dn hb299 GB8)
     refine RL.nil ?_
     refine blk_n (then_n ?_)
     refine wp_seq<|wp_seq<|wp_rs rfl<|RQ.y rfl (Y.fieldAddr (off:=4) s1_j2x (by kernel_rfl))<|RQ.y rfl (Y.load (v:=.slice A2 d0.ports.length c2) rfl (by kernel_rfl) (eqC (blkCell B4 (i:=4) rfl)))<|RQ.y rfl (Y.len (by kernel_rfl) rfl)<|RQ.y rfl (Y.move (v:=.int .i64 0) rfl)<|RQ.nil<|then_n<|wp_block ?_
     obtain ⟨K5,hK5,hm⟩ :∃K,K=m_impl_agentText_A5∧m_impl_agentText_L5 d0 K (d0.ports.length+1) 0 x301=some r:=⟨_,rfl,hm⟩
     refine wp_loopX (fun g f w'=>∃(i309:Int) (z310:ByteArray),f 3=.pointer (some ⟨w3.heap.size,0,none⟩)∧f 60=.slice A2 d0.ports.length c2∧f 61=.int .i64 (d0.ports.length:Int)∧f 62=.int .i64 i309∧0≤i309∧OwB w' w3.heap.size z310∧Below w.heap.size w w'∧m_impl_agentText_L5 d0 K5 g i309 z310=some r) 1 (fun f w'=>∃(z303:ByteArray),f 3=.pointer (some ⟨w3.heap.size,0,none⟩)∧OwB w' w3.heap.size z303∧Below w.heap.size w w'∧m_impl_agentText_A5 z303=some r) (d0.ports.length+1) ⟨0,x301,s3_j2x,rfl,rfl,rfl,(by omega),B298,T,hm⟩ ?_ ?_
     ·rintro f w304 ⟨z303,s3_5x,Bz303,T,hm⟩
      unfold m_impl_agentText_A5 at hm
      refine blk_hit (then_n ?_)
      refine wp_seq<|wp_rl rfl ?_
      refine RL.call rfl (am1 s3_5x) (by kernel_rfl) ((c_bldString Bz303).mono ?_)
      rintro _ w305 ⟨rfl,hb307⟩
      refine ⟨_,rfl,?_⟩
      have szw305:=hb307.size
      have T:=T.trans (Below.dn hb307 GB8)
      refine RL.y rfl (Y.assign (v:=.string z303) rfl)<|RL.nil<|then_n<|wp_ret ?_
      obtain rfl:=sj hm
      exact (ret1 rfl rfl rfl ⟨rfl,T⟩)
     rintro g f w311 ⟨i309,z310,s3_5,s60_5,s61_5,s62_5,nn62_5,Bz310,T,hm⟩
     rcases g with _|g
     ·simp only [m_impl_agentText_L5] at hm; cases hm
     obtain ⟨rec5,hrec5,hm⟩ :∃z,z=m_impl_agentText_L5 d0 K5 g∧m_impl_agentText_B5 d0 z K5 i309 z310=some r:=⟨_,rfl,hm⟩
     unfold m_impl_agentText_B5 at hm
     refine wp_seq<|wp_rs rfl<|RQ.y rfl (Y.binI (v:=.bool (decide (i309 < (d0.ports.length:Int)))) s62_5 s61_5 rfl)<|RQ.nil<|then_n<|wp_seq ?_
     rcases bcases (decide (i309 < (d0.ports.length:Int))) with c312|c312
     ·replace hm:=cF c312 hm
      have pc312:=of_decide_eq_false c312
      refine cond_f rfl (vb rfl c312)<|wp_exit ?_
      exact (then_x (then_x (hit_x ⟨_,rfl,⟨z310,s3_5,Bz310,T,(by rw [hK5] at hm; exact hm)⟩⟩)))
     replace hm:=cT c312 hm
     have pc312:=of_decide_eq_true c312
     refine cond_t rfl (vb rfl c312)<|wp_skip<|then_n<|wp_seq<|wp_block<|wp_seq<|wp_rl rfl ?_
     obtain ⟨x313,hx316,hm⟩:=bnd hm
     obtain ⟨k314,hk317,hl318,hx316⟩:=getI_some hx316
     obtain ⟨b320,o321,rfl,hbb320⟩:=h2.addr (by omega)
     obtain ⟨cs315,hRcs315,hc319⟩:=h2.el hx316
     have hScs315:=hRcs315
     obtain rfl:=hRcs315
     refine RL.y rfl (Y.indexAddr (m:=k314) (sz:=2) s60_5 s62_5 hk317 hl318 (by kernel_rfl))<|RL.y rfl (Y.loadN (cs:=[.int .i64 x313.agent,.int .i64 x313.slot]) rfl (by kernel_rfl) (cells2 (eqC (cellT T (hc319 0 _ rfl))) (eqC (cellT T (hc319 1 _ rfl))))) ?_
     refine RL.alloc (z:=.agg #[.int .i64 0,.int .i64 0]) rfl (by kernel_rfl) (fun w322 B323 hb324 szw322=>?_)
     replace B323:Blk w322 w311.heap.size 61 #[.int .i64 0,.int .i64 0]:=B323
     have GB323:w.heap.size≤w311.heap.size:=T.size
     have Eob325_ob10:=Nat.ne_of_lt Bz310.lt
     have NA326:=BufNe.below (OwB.far Bz310 (Nat.le_refl _)) hb324 (OwB.lt Bz310)
     have Bz310:=OwB.below Bz310 hb324
     have T:=Tt T hb324
     refine RL.store (v:=.agg #[.int .i64 x313.agent,.int .i64 x313.slot]) (cs':=#[.int .i64 x313.agent,.int .i64 x313.slot]) rfl rfl rfl B323 (by kernel_rfl) (by rfl) (by rfl) (by rfl) (fun w327 B328 ho329=>?_)
     have szw327:=ho329.size
     have NBw327_ob10:=BufNe.only NA326 ho329 (by intro hin; simp at hin; exact Eob325_ob10 hin)
     have Bz310:=Bz310.only ho329 (by intro hin; simp at hin; exact Eob325_ob10 hin) NA326
     have NA326:=NBw327_ob10
     have T:=T.trans (ho329.below (by first|(simp; done)|(simp; omega)))
     refine RL.nil<|then_n ?_
     refine wp_rg (fun w'=>Below w.heap.size w w'∧Blk w' w311.heap.size 61 #[.int .i64 x313.agent,.int .i64 x313.slot]) [(0,true),(1,true),(5,true),(6,true),(2,false),(3,true),(4,true),(7,false),(8,true),(9,false)] (by kernel_rfl) (by kernel_rfl) (fun w330 hb331 szw330=>?_)
     have NA326:=BufNe.below NA326 hb331 (OwB.lt Bz310)
     have Bz310:=OwB.below Bz310 hb331
     have B328:=blkT B328 hb331
     have T:=Tt T hb331
     refine ⟨⟨T,B328⟩,?_⟩
     refine RG.y rfl rfl (Y.fieldAddr (off:=0) rfl (by kernel_rfl))<|RG.y rfl rfl (Y.load (v:=.int .i64 x313.agent) rfl (by kernel_rfl) (fun w' hS=>(blkCell hS.2 (i:=0) rfl)))<|RG.y rfl rfl (Y.fieldAddr (off:=1) rfl (by kernel_rfl))<|RG.y rfl rfl (Y.load (v:=.int .i64 x313.slot) rfl (by kernel_rfl) (fun w' hS=>(blkCell hS.2 (i:=1) rfl)))<|RG.act rfl ?_
     obtain ⟨y332,e333,hm⟩:=bnd hm
     refine RL.call rfl (am1 rfl) (by kernel_rfl) ((c_m_impl_Decimal x313.agent _ e333  _ (WD.below hW T) ).mono ?_)
     rintro _ w334 ⟨rfl,hb335⟩
     refine ⟨_,rfl,?_⟩
     have szw334:=hb335.size
     have NA326:=BufNe.below NA326 hb335 (OwB.lt Bz310)
     have Bz310:=OwB.below Bz310 hb335
     have B328:=blkT B328 hb335
     have T:=Tt T hb335
     refine RL.nil ⟨⟨T,B328⟩,?_⟩
     obtain ⟨s336,k337,hm⟩:=bnd hm
     refine RG.y rfl rfl (Y.catS (s:=s336) rfl rfl k337) ?_
     obtain ⟨s338,k339,hm⟩:=bnd hm
     refine RG.y rfl rfl (Y.catS (s:=s338) rfl rfl k339)<|RG.act rfl ?_
     obtain ⟨y340,e341,hm⟩:=bnd hm
     refine RL.call rfl (am1 rfl) (by kernel_rfl) ((c_m_impl_Decimal x313.slot _ e341  _ (WD.below hW T) ).mono ?_)
     rintro _ w342 ⟨rfl,hb343⟩
     refine ⟨_,rfl,?_⟩
     have szw342:=hb343.size
     have NA326:=BufNe.below NA326 hb343 (OwB.lt Bz310)
     have Bz310:=OwB.below Bz310 hb343
     have B328:=blkT B328 hb343
     have T:=Tt T hb343
     refine RL.nil ⟨⟨T,B328⟩,?_⟩
     obtain ⟨s344,k345,hm⟩:=bnd hm
     refine RG.y rfl rfl (Y.catS (s:=s344) rfl rfl k345)<|RG.act rfl ?_
     obtain ⟨x350,e351,hm⟩:=bnd hm
     refine RL.call rfl (am2 s3_5 rfl) (by kernel_rfl) ((c_bldWrite Bz310 e351).mono ?_)
     rintro _ w346 ⟨rfl,B347,hb348,ho349⟩
     refine ⟨_,rfl,?_⟩
     have szw346:=hb348.size
     have B328:=(ho349 _ B328.lt (Ne.symm Eob325_ob10) NA326).trans B328
     have T:=T.trans (Below.dn hb348 GB8)
     refine RL.nil ⟨⟨T,B328⟩,?_⟩
     refine RG.nil ?_
     refine blk_n (then_n ?_)
     refine wp_rs rfl<|RQ.y rfl (Y.binI s62_5 rfl (binI_add (m:=i309) (by omega)))<|RQ.y rfl (Y.move (v:=.int .i64 (i309+1)) rfl)<|RQ.nil ?_
     exact (then_n ⟨g,_,Nat.lt_succ_self _,rfl,⟨(i309+1),x350,s3_5,s60_5,s61_5,rfl,(by omega),B347,T,(by rw [← hrec5]; exact hm)⟩⟩)
    replace hm:=cT c23 hm
    refine cond_t rfl (vb s20_j2x c23)<|wp_rl rfl<|RL.y rfl (Y.fieldAddr (off:=2) s1_j2x (by kernel_rfl))<|RL.y rfl (Y.load (v:=.int .i64 d0.value) rfl (by kernel_rfl) (eqC (blkCell B4 (i:=2) rfl))) ?_
    obtain ⟨y353,e354,hm⟩:=bnd hm
    refine RL.call rfl (am1 rfl) (by kernel_rfl) ((c_m_impl_Decimal d0.value _ e354  _ (WD.below hW T) ).mono ?_)
    rintro _ w355 ⟨rfl,hb356⟩
    refine ⟨_,rfl,?_⟩
    have szw355:=hb356.size
    have B4:=blkT B4 hb356
    have Bz19:=OwB.below Bz19 hb356
    have T:=Tt T hb356
    obtain ⟨s357,k358,hm⟩:=bnd hm
    refine RL.y rfl (Y.catS (s:=s357) rfl rfl k358) ?_
    obtain ⟨x363,e364,hm⟩:=bnd hm
    refine RL.call rfl (am2 s3_j2x rfl) (by kernel_rfl) ((c_bldWrite Bz19 e364).mono ?_)
    rintro _ w359 ⟨rfl,B360,hb361,ho362⟩
    refine ⟨_,rfl,?_⟩
    have szw359:=hb361.size
    have B4:=blkLt B4 hb361 LTob10_ob6
    have T:=T.trans (Below.dn hb361 GB8)
    refine RL.nil ?_
    refine blk_n (then_n ?_)
    refine wp_seq<|wp_seq<|wp_rs rfl<|RQ.y rfl (Y.fieldAddr (off:=4) s1_j2x (by kernel_rfl))<|RQ.y rfl (Y.load (v:=.slice A2 d0.ports.length c2) rfl (by kernel_rfl) (eqC (blkCell B4 (i:=4) rfl)))<|RQ.y rfl (Y.len (by kernel_rfl) rfl)<|RQ.y rfl (Y.move (v:=.int .i64 0) rfl)<|RQ.nil<|then_n<|wp_block ?_
    obtain ⟨K6,hK6,hm⟩ :∃K,K=m_impl_agentText_A6∧m_impl_agentText_L6 d0 K (d0.ports.length+1) 0 x363=some r:=⟨_,rfl,hm⟩
    refine wp_loopX (fun g f w'=>∃(i371:Int) (z372:ByteArray),f 3=.pointer (some ⟨w3.heap.size,0,none⟩)∧f 60=.slice A2 d0.ports.length c2∧f 61=.int .i64 (d0.ports.length:Int)∧f 62=.int .i64 i371∧0≤i371∧OwB w' w3.heap.size z372∧Below w.heap.size w w'∧m_impl_agentText_L6 d0 K6 g i371 z372=some r) 1 (fun f w'=>∃(z365:ByteArray),f 3=.pointer (some ⟨w3.heap.size,0,none⟩)∧OwB w' w3.heap.size z365∧Below w.heap.size w w'∧m_impl_agentText_A6 z365=some r) (d0.ports.length+1) ⟨0,x363,s3_j2x,rfl,rfl,rfl,(by omega),B360,T,hm⟩ ?_ ?_
    ·rintro f w366 ⟨z365,s3_6x,Bz365,T,hm⟩
     unfold m_impl_agentText_A6 at hm
     refine blk_hit (then_n ?_)
     refine wp_seq<|wp_rl rfl ?_
     refine RL.call rfl (am1 s3_6x) (by kernel_rfl) ((c_bldString Bz365).mono ?_)
     rintro _ w367 ⟨rfl,hb369⟩
     refine ⟨_,rfl,?_⟩
     have szw367:=hb369.size
     have T:=T.trans (Below.dn hb369 GB8)
     refine RL.y rfl (Y.assign (v:=.string z365) rfl)<|RL.nil<|then_n<|wp_ret ?_
     obtain rfl:=sj hm
     exact (ret1 rfl rfl rfl ⟨rfl,T⟩)
    rintro g f w373 ⟨i371,z372,s3_6,s60_6,s61_6,s62_6,nn62_6,Bz372,T,hm⟩
    rcases g with _|g
    ·simp only [m_impl_agentText_L6] at hm; cases hm
    obtain ⟨rec6,hrec6,hm⟩ :∃z,z=m_impl_agentText_L6 d0 K6 g∧m_impl_agentText_B6 d0 z K6 i371 z372=some r:=⟨_,rfl,hm⟩
    unfold m_impl_agentText_B6 at hm
    refine wp_seq<|wp_rs rfl<|RQ.y rfl (Y.binI (v:=.bool (decide (i371 < (d0.ports.length:Int)))) s62_6 s61_6 rfl)<|RQ.nil<|then_n<|wp_seq ?_
    rcases bcases (decide (i371 < (d0.ports.length:Int))) with c374|c374
    ·replace hm:=cF c374 hm
     have pc374:=of_decide_eq_false c374
     refine cond_f rfl (vb rfl c374)<|wp_exit ?_
     exact (then_x (then_x (hit_x ⟨_,rfl,⟨z372,s3_6,Bz372,T,(by rw [hK6] at hm; exact hm)⟩⟩)))
    replace hm:=cT c374 hm
    have pc374:=of_decide_eq_true c374
    refine cond_t rfl (vb rfl c374)<|wp_skip<|then_n<|wp_seq<|wp_block<|wp_seq<|wp_rl rfl ?_
    obtain ⟨x375,hx378,hm⟩:=bnd hm
    obtain ⟨k376,hk379,hl380,hx378⟩:=getI_some hx378
    obtain ⟨b382,o383,rfl,hbb382⟩:=h2.addr (by omega)
    obtain ⟨cs377,hRcs377,hc381⟩:=h2.el hx378
    have hScs377:=hRcs377
    obtain rfl:=hRcs377
    refine RL.y rfl (Y.indexAddr (m:=k376) (sz:=2) s60_6 s62_6 hk379 hl380 (by kernel_rfl))<|RL.y rfl (Y.loadN (cs:=[.int .i64 x375.agent,.int .i64 x375.slot]) rfl (by kernel_rfl) (cells2 (eqC (cellT T (hc381 0 _ rfl))) (eqC (cellT T (hc381 1 _ rfl))))) ?_
    refine RL.alloc (z:=.agg #[.int .i64 0,.int .i64 0]) rfl (by kernel_rfl) (fun w384 B385 hb386 szw384=>?_)
    replace B385:Blk w384 w373.heap.size 61 #[.int .i64 0,.int .i64 0]:=B385
    have GB385:w.heap.size≤w373.heap.size:=T.size
    have Eob387_ob10:=Nat.ne_of_lt Bz372.lt
    have NA388:=BufNe.below (OwB.far Bz372 (Nat.le_refl _)) hb386 (OwB.lt Bz372)
    have Bz372:=OwB.below Bz372 hb386
    have T:=Tt T hb386
    refine RL.store (v:=.agg #[.int .i64 x375.agent,.int .i64 x375.slot]) (cs':=#[.int .i64 x375.agent,.int .i64 x375.slot]) rfl rfl rfl B385 (by kernel_rfl) (by rfl) (by rfl) (by rfl) (fun w389 B390 ho391=>?_)
    have szw389:=ho391.size
    have NBw389_ob10:=BufNe.only NA388 ho391 (by intro hin; simp at hin; exact Eob387_ob10 hin)
    have Bz372:=Bz372.only ho391 (by intro hin; simp at hin; exact Eob387_ob10 hin) NA388
    have NA388:=NBw389_ob10
    have T:=T.trans (ho391.below (by first|(simp; done)|(simp; omega)))
    refine RL.nil<|then_n ?_
    refine wp_rg (fun w'=>Below w.heap.size w w'∧Blk w' w373.heap.size 61 #[.int .i64 x375.agent,.int .i64 x375.slot]) [(0,true),(1,true),(5,true),(6,true),(2,false),(3,true),(4,true),(7,false),(8,true),(9,false)] (by kernel_rfl) (by kernel_rfl) (fun w392 hb393 szw392=>?_)
    have NA388:=BufNe.below NA388 hb393 (OwB.lt Bz372)
    have Bz372:=OwB.below Bz372 hb393
    have B390:=blkT B390 hb393
    have T:=Tt T hb393
    refine ⟨⟨T,B390⟩,?_⟩
    refine RG.y rfl rfl (Y.fieldAddr (off:=0) rfl (by kernel_rfl))<|RG.y rfl rfl (Y.load (v:=.int .i64 x375.agent) rfl (by kernel_rfl) (fun w' hS=>(blkCell hS.2 (i:=0) rfl)))<|RG.y rfl rfl (Y.fieldAddr (off:=1) rfl (by kernel_rfl))<|RG.y rfl rfl (Y.load (v:=.int .i64 x375.slot) rfl (by kernel_rfl) (fun w' hS=>(blkCell hS.2 (i:=1) rfl)))<|RG.act rfl ?_
    obtain ⟨y394,e395,hm⟩:=bnd hm
    refine RL.call rfl (am1 rfl) (by kernel_rfl) ((c_m_impl_Decimal x375.agent _ e395  _ (WD.below hW T) ).mono ?_)
    rintro _ w396 ⟨rfl,hb397⟩
    refine ⟨_,rfl,?_⟩
    have szw396:=hb397.size
    have NA388:=BufNe.below NA388 hb397 (OwB.lt Bz372)
    have Bz372:=OwB.below Bz372 hb397
    have B390:=blkT B390 hb397
    have T:=Tt T hb397
    refine RL.nil ⟨⟨T,B390⟩,?_⟩
    obtain ⟨s398,k399,hm⟩:=bnd hm
    refine RG.y rfl rfl (Y.catS (s:=s398) rfl rfl k399) ?_
    obtain ⟨s400,k401,hm⟩:=bnd hm
    refine RG.y rfl rfl (Y.catS (s:=s400) rfl rfl k401)<|RG.act rfl ?_
    obtain ⟨y402,e403,hm⟩:=bnd hm
    refine RL.call rfl (am1 rfl) (by kernel_rfl) ((c_m_impl_Decimal x375.slot _ e403  _ (WD.below hW T) ).mono ?_)
    rintro _ w404 ⟨rfl,hb405⟩
    refine ⟨_,rfl,?_⟩
    have szw404:=hb405.size
    have NA388:=BufNe.below NA388 hb405 (OwB.lt Bz372)
    have Bz372:=OwB.below Bz372 hb405
    have B390:=blkT B390 hb405
    have T:=Tt T hb405
    refine RL.nil ⟨⟨T,B390⟩,?_⟩
    obtain ⟨s406,k407,hm⟩:=bnd hm
    refine RG.y rfl rfl (Y.catS (s:=s406) rfl rfl k407)<|RG.act rfl ?_
    obtain ⟨x412,e413,hm⟩:=bnd hm
    refine RL.call rfl (am2 s3_6 rfl) (by kernel_rfl) ((c_bldWrite Bz372 e413).mono ?_)
    rintro _ w408 ⟨rfl,B409,hb410,ho411⟩
    refine ⟨_,rfl,?_⟩
    have szw408:=hb410.size
    have B390:=(ho411 _ B390.lt (Ne.symm Eob387_ob10) NA388).trans B390
    have T:=T.trans (Below.dn hb410 GB8)
    refine RL.nil ⟨⟨T,B390⟩,?_⟩
    refine RG.nil ?_
    refine blk_n (then_n ?_)
    refine wp_rs rfl<|RQ.y rfl (Y.binI s62_6 rfl (binI_add (m:=i371) (by omega)))<|RQ.y rfl (Y.move (v:=.int .i64 (i371+1)) rfl)<|RQ.nil ?_
    exact (then_n ⟨g,_,Nat.lt_succ_self _,rfl,⟨(i371+1),x412,s3_6,s60_6,s61_6,rfl,(by omega),B409,T,(by rw [← hrec6]; exact hm)⟩⟩)
   intro hJj2
   refine wp_seq<|wp_seq<|wp_rs rfl<|RQ.y rfl (Y.binI (v:=.bool (d0.kind==6)) rfl rfl rfl)<|RQ.y rfl (Y.assign (v:=.bool (d0.kind==6)) rfl)<|RQ.nil<|then_n ?_
   rcases bcases (d0.kind==6) with c415|c415
   ·replace hm:=cF c415 hm
    refine cond_f rfl (vb rfl c415)<|wp_seq<|wp_rs rfl<|RQ.y rfl (Y.binI (v:=.bool (d0.kind==9)) rfl rfl rfl)<|RQ.y rfl (Y.assign (v:=.bool (d0.kind==9)) rfl)<|RQ.nil<|then_n ?_
    rcases bcases (d0.kind==9) with c416|c416
    ·replace hm:=cF c416 hm
     refine cond_f rfl (vb rfl c416)<|wp_rs rfl<|RQ.y rfl (Y.binI (v:=.bool (d0.kind==12)) rfl rfl rfl)<|RQ.y rfl (Y.assign (v:=.bool (d0.kind==12)) rfl)<|RQ.nil<|then_n ?_
     exact hJj2 _ _ ⟨(d0.kind==12),s1_j1x,s3_j1x,rfl,rfl,B4,Bz19,T,hm⟩
    replace hm:=cT c416 hm
    refine cond_t rfl (vb rfl c416)<|wp_skip<|then_n ?_
    exact hJj2 _ _ ⟨(d0.kind==9),s1_j1x,s3_j1x,rfl,rfl,B4,Bz19,T,hm⟩
   replace hm:=cT c415 hm
   refine cond_t rfl (vb rfl c415)<|wp_skip<|then_n ?_
   exact hJj2 _ _ ⟨(d0.kind==6),s1_j1x,s3_j1x,rfl,rfl,B4,Bz19,T,hm⟩
  intro hJj1
  refine wp_seq<|wp_seq<|wp_rb rfl<|RQ.y rfl (Y.fieldAddr (off:=0) rfl (by kernel_rfl))<|RQ.y rfl (Y.load (v:=.int .i64 d0.kind) rfl (by kernel_rfl) (beC (blkCell B4 (i:=0) rfl)))<|RQ.call rfl (am1 rfl) (by kernel_rfl) (v:=.bool (hasLevel d0.kind)) (bel (K:=fun _=>True) fun w' hb'=>(callB (impl_HasLevel d0.kind w')))<|RQ.nil ?_
  intro w417 hb418
  have szw417:=hb418.size
  have B4:=blkT B4 hb418
  have B14:=OwB.below B14 hb418
  have T:=Tt T hb418
  refine then_n ?_
  rcases bcases (hasLevel d0.kind) with c419|c419
  ·replace hm:=cF c419 hm
   refine cond_f rfl (vb rfl c419)<|wp_skip<|then_n ?_
   exact hJj1 _ _ ⟨x17,rfl,rfl,B14,B4,T,hm⟩
  replace hm:=cT c419 hm
  refine cond_t rfl (vb rfl c419)<|wp_rl rfl<|RL.y rfl (Y.fieldAddr (off:=1) rfl (by kernel_rfl))<|RL.y rfl (Y.load (v:=.int .i64 d0.level) rfl (by kernel_rfl) (eqC (blkCell B4 (i:=1) rfl))) ?_
  obtain ⟨y420,e421,hm⟩:=bnd hm
  refine RL.call rfl (am1 rfl) (by kernel_rfl) ((c_m_impl_Decimal d0.level _ e421  _ (WD.below hW T) ).mono ?_)
  rintro _ w422 ⟨rfl,hb423⟩
  refine ⟨_,rfl,?_⟩
  have szw422:=hb423.size
  have B4:=blkT B4 hb423
  have B14:=OwB.below B14 hb423
  have T:=Tt T hb423
  obtain ⟨s424,k425,hm⟩:=bnd hm
  refine RL.y rfl (Y.catS (s:=s424) rfl rfl k425) ?_
  obtain ⟨x430,e431,hm⟩:=bnd hm
  refine RL.call rfl (am2 rfl rfl) (by kernel_rfl) ((c_bldWrite B14 e431).mono ?_)
  rintro _ w426 ⟨rfl,B427,hb428,ho429⟩
  refine ⟨_,rfl,?_⟩
  have szw426:=hb428.size
  have B4:=blkLt B4 hb428 LTob10_ob6
  have T:=T.trans (Below.dn hb428 GB8)
  refine RL.nil<|then_n ?_
  exact hJj1 _ _ ⟨x430,rfl,rfl,B427,B4,T,hm⟩
def m_impl_netText_A1 (xs6:List ByteArray):Option ByteArray:=
  ((joinM xs6 (ByteArray.mk #[59,32])).bind fun y8=>some y8)
def m_impl_netText_B1 (d0:DNet) (rec1:List ByteArray→Int→Option ByteArray) (K1:List ByteArray→Option ByteArray) (xs12:List ByteArray) (i13:Int):Option ByteArray:=
  (bif (decide (i13 < (d0.agents.length:Int))) then ((getI d0.agents i13).bind fun x16=>((m_impl_agentText x16).bind fun y34=>((mustP (xs12.length+([y34]).length≤4294967296)).bind fun _=>(rec1 (xs12 ++ [y34]) (i13+1))))) else (K1 xs12))
def m_impl_netText_L1 (d0:DNet) (K1:List ByteArray→Option ByteArray):Nat→List ByteArray→Int→Option ByteArray
  |0,_,_=>none
  |g+1,xs12,i13=>m_impl_netText_B1 d0 (m_impl_netText_L1 d0 K1 g) K1 xs12 i13
def m_impl_netText (d0:DNet):Option ByteArray:=
  (m_impl_netText_L1 d0 m_impl_netText_A1 (d0.agents.length+1) ([]) 0)
set_option maxHeartbeats 2000000 in
theorem c_m_impl_netText (d0:DNet) (r:ByteArray) (hm:m_impl_netText d0=some r) (v0:Value) (w:World) (hW:WD w) (hv0:St netRd w v0 d0) :
    Calls Tryz.prog 19 #[v0] w fun e w'=>e=.returned (.string r)∧Below w.heap.size w w':=by
  obtain ⟨csa0,rfl,⟨A1,n1,c1,rfl,⟨h1,r1⟩⟩⟩:=hv0
  have e1:=h1.len; subst e1
  have q1:=len_le r1
  have T:=Below.refl w.heap.size w
  unfold m_impl_netText at hm
  refine enter 21 Tryz.func19 rfl rfl rfl ?_
  intro f hf
  have s0:f 0=.agg #[.slice A1 d0.agents.length c1]:=hf 0 _ rfl
  refine wp_seq<|wp_rl rfl ?_
  refine RL.box rfl s0 (fun w2 B3 hb4 szw2=>?_)
  replace B3:Blk w2 w.heap.size 29 #[.slice A1 d0.agents.length c1]:=B3
  have GB3:w.heap.size≤w.heap.size:=T.size
  have T:=Tt T hb4
  refine RL.y rfl (Y.assign (v:=.string (ByteArray.mk #[])) rfl)<|RL.nil<|then_n<|wp_seq<|wp_rs rfl<|RQ.y rfl (Y.assign (v:=.slice none 0 0) rfl)<|RQ.nil<|then_n<|wp_seq<|wp_seq<|wp_rs rfl<|RQ.y rfl (Y.fieldAddr (off:=0) rfl (by kernel_rfl))<|RQ.y rfl (Y.load (v:=.slice A1 d0.agents.length c1) rfl (by kernel_rfl) (eqC (blkCell B3 (i:=0) rfl)))<|RQ.y rfl (Y.len (by kernel_rfl) rfl)<|RQ.y rfl (Y.move (v:=.int .i64 0) rfl)<|RQ.nil<|then_n<|wp_block ?_
  obtain ⟨K1,hK1,hm⟩ :∃K,K=m_impl_netText_A1∧m_impl_netText_L1 d0 K (d0.agents.length+1) ([]) 0=some r:=⟨_,rfl,hm⟩
  refine wp_loopX (fun g f w'=>∃(xs12:List ByteArray) (i13:Int) (uxs12:Value),f 7=.slice A1 d0.agents.length c1∧f 8=.int .i64 (d0.agents.length:Int)∧f 3=uxs12∧OwF 9 encS 1 w' w.heap.size uxs12 xs12∧f 9=.int .i64 i13∧0≤i13∧Below w.heap.size w w'∧m_impl_netText_L1 d0 K1 g xs12 i13=some r) 0 (fun f w'=>∃(xs6:List ByteArray) (uxs6:Value),f 3=uxs6∧OwF 9 encS 1 w' w.heap.size uxs6 xs6∧Below w.heap.size w w'∧m_impl_netText_A1 xs6=some r) (d0.agents.length+1) ⟨([]),0,(.slice none 0 0),rfl,rfl,rfl,OwF.nil,rfl,(by omega),T,hm⟩ ?_ ?_
  ·rintro f w7 ⟨xs6,uxs6,s3_1x,Guxs6,T,hm⟩
   unfold m_impl_netText_A1 at hm
   refine blk_hit (then_n ?_)
   refine wp_seq<|wp_rb rfl<|RQ.y rfl (Y.move (v:=uxs6) s3_1x) ?_
   obtain ⟨y8,e9,hm⟩:=bnd hm
   refine RQ.call rfl (am2 rfl rfl) (by kernel_rfl) (v:=.string y8) (bel (K:=fun _=>True) fun w' hb'=>(c_joinM xs6 (ByteArray.mk #[59,32]) _ e9 _ w' (OwF.arg fS (OwF.below Guxs6 hb'))))<|RQ.y rfl (Y.assign (v:=.string y8) rfl)<|RQ.nil ?_
   intro w10 hb11
   have szw10:=hb11.size
   have T:=Tt T hb11
   refine then_n<|wp_ret ?_
   obtain rfl:=sj hm
   exact (ret1 rfl rfl rfl ⟨rfl,T⟩)
  rintro g f w14 ⟨xs12,i13,uxs12,s7_1,s8_1,s3_1,Guxs12,s9_1,nn9_1,T,hm⟩
  rcases g with _|g
  ·simp only [m_impl_netText_L1] at hm; cases hm
  obtain ⟨rec1,hrec1,hm⟩ :∃z,z=m_impl_netText_L1 d0 K1 g∧m_impl_netText_B1 d0 z K1 xs12 i13=some r:=⟨_,rfl,hm⟩
  unfold m_impl_netText_B1 at hm
  refine wp_seq<|wp_rs rfl<|RQ.y rfl (Y.binI (v:=.bool (decide (i13 < (d0.agents.length:Int)))) s9_1 s8_1 rfl)<|RQ.nil<|then_n<|wp_seq ?_
  rcases bcases (decide (i13 < (d0.agents.length:Int))) with c15|c15
  ·replace hm:=cF c15 hm
   have pc15:=of_decide_eq_false c15
   refine cond_f rfl (vb rfl c15)<|wp_exit ?_
   exact (then_x (then_x (hit_x ⟨_,rfl,⟨xs12,(uxs12),s3_1,Guxs12,T,(by rw [hK1] at hm; exact hm)⟩⟩)))
  replace hm:=cT c15 hm
  have pc15:=of_decide_eq_true c15
  refine cond_t rfl (vb rfl c15)<|wp_skip<|then_n<|wp_seq<|wp_block<|wp_seq<|wp_rl rfl ?_
  obtain ⟨x16,hx19,hm⟩:=bnd hm
  obtain ⟨k17,hk20,hl21,hx19⟩:=getI_some hx19
  obtain ⟨b23,o24,rfl,hbb23⟩:=h1.addr (by omega)
  obtain ⟨cs18,hRcs18,hc22⟩:=h1.el hx19
  have hScs18:=hRcs18
  obtain ⟨A25,n25,c25,A26,n26,c26,rfl,⟨h25,r25⟩,⟨h26,r26⟩⟩:=hRcs18
  have e25:=h25.len; subst e25
  have q25:=len_le r25
  have e26:=h26.len; subst e26
  have q26:=len_le r26
  refine RL.y rfl (Y.indexAddr (m:=k17) (sz:=5) s7_1 s9_1 hk20 hl21 (by kernel_rfl))<|RL.y rfl (Y.loadN (cs:=[.int .i64 x16.kind,.int .i64 x16.level,.int .i64 x16.value,.slice A25 x16.data.length c25,.slice A26 x16.ports.length c26]) rfl (by kernel_rfl) (cells5 (eqC (cellT T (hc22 0 _ rfl))) (eqC (cellT T (hc22 1 _ rfl))) (eqC (cellT T (hc22 2 _ rfl))) (eqC (cellT T (hc22 3 _ rfl))) (eqC (cellT T (hc22 4 _ rfl))))) ?_
  refine RL.alloc (z:=.agg #[.int .i64 0,.int .i64 0,.int .i64 0,.slice none 0 0,.slice none 0 0]) rfl (by kernel_rfl) (fun w27 B28 hb29 szw27=>?_)
  replace B28:Blk w27 w14.heap.size 49 #[.int .i64 0,.int .i64 0,.int .i64 0,.slice none 0 0,.slice none 0 0]:=B28
  have GB28:w.heap.size≤w14.heap.size:=T.size
  have Noxs12_ob30:=OwF.far Guxs12 (Nat.le_refl _)
  have Guxs12:=OwF.below Guxs12 hb29
  have T:=Tt T hb29
  refine RL.store (v:=.agg #[.int .i64 x16.kind,.int .i64 x16.level,.int .i64 x16.value,.slice A25 x16.data.length c25,.slice A26 x16.ports.length c26]) (cs':=#[.int .i64 x16.kind,.int .i64 x16.level,.int .i64 x16.value,.slice A25 x16.data.length c25,.slice A26 x16.ports.length c26]) rfl rfl rfl B28 (by kernel_rfl) (by rfl) (by rfl) (by rfl) (fun w31 B32 ho33=>?_)
  have szw31:=ho33.size
  have Guxs12:=OwF.only Guxs12 ho33 Noxs12_ob30
  have T:=T.trans (ho33.below (by first|(simp; done)|(simp; omega)))
  refine RL.nil<|then_n<|wp_rl rfl<|RL.y rfl (Y.move (v:=uxs12) s3_1)<|RL.y rfl (Y.loadN (cs:=[.int .i64 x16.kind,.int .i64 x16.level,.int .i64 x16.value,.slice A25 x16.data.length c25,.slice A26 x16.ports.length c26]) rfl (by kernel_rfl) (cells5 (eqC (blkCell B32 (i:=0) rfl)) (eqC (blkCell B32 (i:=1) rfl)) (eqC (blkCell B32 (i:=2) rfl)) (eqC (blkCell B32 (i:=3) rfl)) (eqC (blkCell B32 (i:=4) rfl)))) ?_
  obtain ⟨y34,e35,hm⟩:=bnd hm
  refine RL.call rfl (am1 rfl) (by kernel_rfl) ((c_m_impl_agentText x16 _ e35 _ _ (WD.below hW T) (stArg (R:=agentRd) ⟨_,_,_,_,_,_,rfl,⟨SlAt.now intRd_ok h25 (Nat.le_refl _) T,r25⟩,⟨SlAt.now portRd_ok h26 (Nat.le_refl _) T,r26⟩⟩)).mono ?_)
  rintro _ w36 ⟨rfl,hb37⟩
  refine ⟨_,rfl,?_⟩
  have szw36:=hb37.size
  have B32:=blkT B32 hb37
  have Guxs12:=OwF.below Guxs12 hb37
  have T:=Tt T hb37
  refine RL.bslice (e:=9) (cells:=#[.string y34]) rfl (pm1 rfl) (by kernel_rfl) (fun w38 B39 hb40 szw38=>?_)
  have ZB39:w.heap.size≤w36.heap.size:=T.size
  have No41_ob30:=litNe (n:=1) (c:=1) B32.lt
  have Do41_oxs12:=Dj.new (v:=.slice (some ⟨w36.heap.size,0,none⟩) 1 1) litGe (OwF.hi Guxs12)
  have B32:=blkT B32 hb40
  have Guxs12:=OwF.below Guxs12 hb40
  have T:=Tt T hb40
  have G42:=OwF.lit (enc:=encS) (sz:=1) (xs:=[y34]) B39 ZB39 rfl rfl rfl rfl
  obtain ⟨_,m44,hm⟩:=bnd hm
  have hk45:=mustP_some m44
  refine RL.append fS app_string rfl rfl rfl Guxs12 (OwF.arg fS G42) T.size hk45 (fun v46 w47 G48 hgr49 hbl50 hnb51=>?_)
  have szw47:=hbl50.size
  have No52_ob30:=ne_app hnb51 Noxs12_ob30 B32.lt
  have B32:=Blk.kept B32 hgr49 Noxs12_ob30
  have T:=T.trans hbl50
  refine RL.y rfl (Y.assign (v:=v46) rfl)<|RL.nil ?_
  refine blk_n (then_n ?_)
  refine wp_rs rfl<|RQ.y rfl (Y.binI s9_1 rfl (binI_add (m:=i13) (by omega)))<|RQ.y rfl (Y.move (v:=.int .i64 (i13+1)) rfl)<|RQ.nil ?_
  exact (then_n ⟨g,_,Nat.lt_succ_self _,rfl,⟨(xs12 ++ [y34]),(i13+1),(v46),s7_1,s8_1,rfl,G48,rfl,(by omega),T,(by rw [← hrec1]; exact hm)⟩⟩)
end
section
open Go.RowKit Go.Sort
theorem sz1 (c:UInt8):(ByteArray.mk #[c]).size=1:=rfl
theorem sz2 (c d:UInt8):(ByteArray.mk #[c,d]).size=2:=rfl
theorem sz0:(ByteArray.mk #[]).size=0:=rfl
theorem e_app (a:ByteArray):ByteArray.mk #[] ++ a=a:=ba_ext (by rw [ba_app]; rfl)
theorem app_e (a:ByteArray):a ++ ByteArray.mk #[] = a:=ba_ext (by rw [ba_app]; simp)
def okI (n:Int):Prop:=-9223372036854775808≤n∧n≤9223372036854775807
theorem joinTail_snoc (sep y:List UInt8) :∀r:List (List UInt8),Lib.joinTail sep (r ++ [y])=Lib.joinTail sep r ++ sep ++ y:=by
  intro r
  have h:=Lib.joinTail_take_succ sep (r ++ [y]) r.length y (by simp)
  rw [show r.length+1=(r ++ [y]).length by simp,List.take_length] at h
  rw [h]
  simp
theorem joinB_nil (s:ByteArray):joinB [] s=ByteArray.mk #[]:=rfl
theorem joinB_one (x s:ByteArray):joinB [x] s=x:=ba_ext (by simp [joinB,Lib.join_one])
theorem joinB_snoc {xs:List ByteArray} (h:xs ≠ []) (y s:ByteArray):joinB (xs ++ [y]) s=joinB xs s ++ s ++ y:=by
  cases xs with
  |nil=>exact absurd rfl h
  |cons x r=>
    refine ba_ext ?_
    rw [ba_app,ba_app]
    simp only [joinB,List.map_cons,List.cons_append,List.map_append,List.map_nil,Lib.join_cons,joinTail_snoc]
    simp [List.append_assoc]
theorem joinB_size {M q:Nat} {s:ByteArray} (hs:s.size≤q) :∀(n:Nat) (xs:List ByteArray),xs.length=n→(∀x∈xs,x.size≤M)→(joinB xs s).size≤(M+q) * xs.length:=by
  intro n
  induction n with
  |zero=>
    intro xs hn _
    obtain rfl:xs=[]:=List.eq_nil_of_length_eq_zero hn
    simp [joinB_nil,sz0]
  |succ n ih=>
    intro xs hn hx
    rcases List.eq_nil_or_concat xs with rfl|⟨ys,y,rfl⟩
    · simp at hn
    · rw [List.concat_eq_append] at *
      have hy:=hx y (by simp)
      have h1:=ih ys (by simpa using hn) (fun x h=>hx x (by simp [h]))
      by_cases h0:ys=[]
      · subst h0
        simp only [List.nil_append,joinB_one,List.length_cons,List.length_nil,Nat.zero_add,Nat.mul_one]
        omega
      · rw [joinB_snoc h0,ba_app_size,ba_app_size,List.length_append,List.length_cons,List.length_nil,Nat.zero_add,Nat.mul_add,Nat.mul_one]
        omega
theorem joinB_take {xs:List ByteArray} {k:Nat} {x:ByteArray} (hx:xs[k]? = some x) (h0:0 < k) (s:ByteArray):joinB (xs.take (k+1)) s=joinB (xs.take k) s ++ s ++ x:=by
  have hl:=lt_of_some hx
  rw [take_succ_some hx]
  refine joinB_snoc (fun e=>?_) x s
  have:=congrArg List.length e
  rw [List.length_take,List.length_nil] at this
  omega
/-- The numbers of a list as text. -/
def numsB (l:List Int) (c:UInt8):ByteArray:=joinB (l.map itoaB) (ByteArray.mk #[c])
theorem numsB_size {l:List Int} {c:UInt8} (h :∀x∈l,okI x):(numsB l c).size≤22 * l.length:=by
  have:=joinB_size (M:=21) (q:=1) (s:=ByteArray.mk #[c]) (Nat.le_refl _) _ (l.map itoaB) rfl (fun x hx=>by
    obtain ⟨n,hn,rfl⟩:=List.mem_map.1 hx
    exact itoaB_size (h n hn).1 (h n hn).2)
  simpa [numsB] using this
theorem numsB_take {l:List Int} {c:UInt8} {k:Nat} {x:Int} (hx:l[k]? = some x) (h0:0 < k):numsB (l.take (k+1)) c=numsB (l.take k) c ++ ByteArray.mk #[c] ++ itoaB x:=by
  have:=joinB_take (xs:=l.map itoaB) (k:=k) (x:=itoaB x) (by simp [hx]) h0 (ByteArray.mk #[c])
  unfold numsB
  rw [List.map_take,List.map_take]
  exact this
theorem p_sNumbers (l:List Int) (h :∀x∈l,okI x) (hl:l.length≤1000):m_spec_l11Numbers l=some (numsB l 44):=by
  unfold m_spec_l11Numbers
  have key:=traj (L:=fun g (s:ByteArray × Int)=>m_spec_l11Numbers_L1 l m_spec_l11Numbers_A1 g s.1 s.2) (st:=fun i=>(numsB (l.take i) 44,(i:Int))) (n:=l.length) (r:=some (numsB l 44))
    (fun g i hi=>by
      have hx:=List.getElem?_eq_getElem hi
      have ho:=h l[i] (List.getElem_mem hi)
      have hs:=numsB_size (l:=l.take i) (c:=44) (fun x hx=>h x (List.mem_of_mem_take hx))
      have hs2:=itoaB_size ho.1 ho.2
      have hlt:(l.take i).length≤i:=by simp; omega
      by_cases h0:0 < i
      · simp only []
        rw [m_spec_l11Numbers_L1,m_spec_l11Numbers_B1,dlt hi,cond_true,show decide ((i:Int) > 0)=true by simpa using h0,cond_true,catS_ok (by rw [sz1]; omega),Option.bind_some,getI_lt hi,Option.bind_some,p_sDecimal _ ho.1 ho.2,Option.bind_some,catS_ok (by rw [ba_app_size,sz1]; omega),Option.bind_some,numsB_take hx h0]
        rfl
      · obtain rfl:i=0:=by omega
        simp only []
        rw [m_spec_l11Numbers_L1,m_spec_l11Numbers_B1,dlt hi,cond_true,show decide (((0:Nat):Int) > 0)=false by decide,cond_false,getI_lt hi,Option.bind_some,p_sDecimal _ ho.1 ho.2,Option.bind_some,catS_ok (by omega),Option.bind_some]
        congr 1
        rw [take_succ_some hx]
        simp [numsB,joinB_nil,joinB_one,e_app])
    (fun g=>by
      simp only []
      rw [m_spec_l11Numbers_L1,m_spec_l11Numbers_B1,dge,cond_false,m_spec_l11Numbers_A1,List.take_length]) (l.length+1) (Nat.lt_succ_self _)
  exact key
theorem p_iDecimal {n:Int} (h:okI n):m_impl_Decimal n=some (itoaB n):=by
  rw [m_impl_Decimal,fmtM,if_pos rfl,decM_ok h.1 h.2]
  rfl
theorem p_iDecimals (l:List Int) (h :∀x∈l,okI x) (hl:l.length≤1000):m_impl_decimals l=some (numsB l 32):=by
  unfold m_impl_decimals
  have key:=traj (L:=fun g (s:List ByteArray × Int)=>m_impl_decimals_L1 l m_impl_decimals_A1 g s.1 s.2) (st:=fun i=>((l.take i).map itoaB,(i:Int))) (n:=l.length) (r:=some (numsB l 32))
    (fun g i hi=>by
      have hx:=List.getElem?_eq_getElem hi
      have ho:=h l[i] (List.getElem_mem hi)
      simp only []
      rw [m_impl_decimals_L1,m_impl_decimals_B1,dlt hi,cond_true,getI_lt hi,Option.bind_some,p_iDecimal ho,Option.bind_some,mustP_ok (by simp; omega),Option.bind_some,take_succ_some hx,List.map_append]
      rfl)
    (fun g=>by
      have hs:=numsB_size (l:=l) (c:=32) h
      simp only []
      rw [m_impl_decimals_L1,m_impl_decimals_B1,dge,cond_false,m_impl_decimals_A1,List.take_length,joinM,if_pos ⟨by simp; omega,by unfold numsB at hs; omega⟩]
      rfl) (l.length+1) (Nat.lt_succ_self _)
  exact key
/-- What a port adds. -/
def portT (p:DPort):ByteArray:=ByteArray.mk #[32] ++ itoaB p.agent ++ ByteArray.mk #[46] ++ itoaB p.slot
def portsT (ps:List DPort) (z:ByteArray):ByteArray:=ps.foldl (fun z p=>z ++ portT p) z
def okP (p:DPort):Prop:=okI p.agent∧okI p.slot
theorem portT_size {p:DPort} (h:okP p):(portT p).size≤44:=by
  have h1:=itoaB_size h.1.1 h.1.2
  have h2:=itoaB_size h.2.1 h.2.2
  unfold portT
  simp only [ba_app_size,sz1]
  omega
theorem portsT_size :∀{ps:List DPort} {z:ByteArray},(∀p∈ps,okP p)→(portsT ps z).size≤z.size+44 * ps.length
  |[],z,_=>by simp [portsT]
  |p :: ps,z,h=>by
    have h1:=portT_size (h p (by simp))
    have h2:=portsT_size (ps:=ps) (z:=z ++ portT p) (fun q hq=>h q (by simp [hq]))
    have h3:=ba_app_size z (portT p)
    simp only [portsT,List.foldl_cons,List.length_cons] at h2 ⊢
    omega
theorem portsT_take {ps:List DPort} {z:ByteArray} {k:Nat} {p:DPort} (hx:ps[k]? = some p):portsT (ps.take (k+1)) z=portsT (ps.take k) z ++ portT p:=by
  rw [take_succ_some hx,portsT,portsT,List.foldl_append]
  rfl
theorem sTail1 (x:DAgent) (hp :∀p∈x.ports,okP p) (hl:x.ports.length≤1000) (z:ByteArray) (hz:z.size≤100000):m_spec_l11AgentText_L1 x m_spec_l11AgentText_A1 (x.ports.length+1) z 0=some (portsT x.ports z):=by
  have key:=traj (L:=fun g (s:ByteArray × Int)=>m_spec_l11AgentText_L1 x m_spec_l11AgentText_A1 g s.1 s.2) (st:=fun i=>(portsT (x.ports.take i) z,(i:Int))) (n:=x.ports.length) (r:=some (portsT x.ports z))
    (fun g i hi=>by
      have hx:=List.getElem?_eq_getElem hi
      have ho:=hp x.ports[i] (List.getElem_mem hi)
      have hs:=portsT_size (ps:=x.ports.take i) (z:=z) (fun q hq=>hp q (List.mem_of_mem_take hq))
      have hlt:(x.ports.take i).length≤i:=by simp; omega
      have h1:=itoaB_size ho.1.1 ho.1.2
      have h2:=itoaB_size ho.2.1 ho.2.2
      simp only []
      rw [m_spec_l11AgentText_L1,m_spec_l11AgentText_B1,dlt hi,cond_true,getI_lt hi,Option.bind_some,p_sDecimal _ ho.1.1 ho.1.2,Option.bind_some,catS_ok (by simp only [ba_app_size,sz1]; omega),Option.bind_some,catS_ok (by simp only [ba_app_size,sz1]; omega),Option.bind_some,Option.bind_some,p_sDecimal _ ho.2.1 ho.2.2,Option.bind_some,catS_ok (by simp only [ba_app_size,sz1]; omega),Option.bind_some,catS_ok (by simp only [ba_app_size,sz1]; omega),Option.bind_some,portsT_take hx]
      rfl)
    (fun g=>by
      simp only []
      rw [m_spec_l11AgentText_L1,m_spec_l11AgentText_B1,dge,cond_false,m_spec_l11AgentText_A1,List.take_length]) (x.ports.length+1) (Nat.lt_succ_self _)
  exact key
theorem sTail2 (x:DAgent) (hp :∀p∈x.ports,okP p) (hl:x.ports.length≤1000) (z:ByteArray) (hz:z.size≤100000):m_spec_l11AgentText_L2 x m_spec_l11AgentText_A2 (x.ports.length+1) z 0=some (portsT x.ports z):=by
  have key:=traj (L:=fun g (s:ByteArray × Int)=>m_spec_l11AgentText_L2 x m_spec_l11AgentText_A2 g s.1 s.2) (st:=fun i=>(portsT (x.ports.take i) z,(i:Int))) (n:=x.ports.length) (r:=some (portsT x.ports z))
    (fun g i hi=>by
      have hx:=List.getElem?_eq_getElem hi
      have ho:=hp x.ports[i] (List.getElem_mem hi)
      have hs:=portsT_size (ps:=x.ports.take i) (z:=z) (fun q hq=>hp q (List.mem_of_mem_take hq))
      have hlt:(x.ports.take i).length≤i:=by simp; omega
      have h1:=itoaB_size ho.1.1 ho.1.2
      have h2:=itoaB_size ho.2.1 ho.2.2
      simp only []
      rw [m_spec_l11AgentText_L2,m_spec_l11AgentText_B2,dlt hi,cond_true,getI_lt hi,Option.bind_some,p_sDecimal _ ho.1.1 ho.1.2,Option.bind_some,catS_ok (by simp only [ba_app_size,sz1]; omega),Option.bind_some,catS_ok (by simp only [ba_app_size,sz1]; omega),Option.bind_some,Option.bind_some,p_sDecimal _ ho.2.1 ho.2.2,Option.bind_some,catS_ok (by simp only [ba_app_size,sz1]; omega),Option.bind_some,catS_ok (by simp only [ba_app_size,sz1]; omega),Option.bind_some,portsT_take hx]
      rfl)
    (fun g=>by
      simp only []
      rw [m_spec_l11AgentText_L2,m_spec_l11AgentText_B2,dge,cond_false,m_spec_l11AgentText_A2,List.take_length]) (x.ports.length+1) (Nat.lt_succ_self _)
  exact key
theorem sTail3 (x:DAgent) (hp :∀p∈x.ports,okP p) (hl:x.ports.length≤1000) (z:ByteArray) (hz:z.size≤100000):m_spec_l11AgentText_L3 x m_spec_l11AgentText_A3 (x.ports.length+1) z 0=some (portsT x.ports z):=by
  have key:=traj (L:=fun g (s:ByteArray × Int)=>m_spec_l11AgentText_L3 x m_spec_l11AgentText_A3 g s.1 s.2) (st:=fun i=>(portsT (x.ports.take i) z,(i:Int))) (n:=x.ports.length) (r:=some (portsT x.ports z))
    (fun g i hi=>by
      have hx:=List.getElem?_eq_getElem hi
      have ho:=hp x.ports[i] (List.getElem_mem hi)
      have hs:=portsT_size (ps:=x.ports.take i) (z:=z) (fun q hq=>hp q (List.mem_of_mem_take hq))
      have hlt:(x.ports.take i).length≤i:=by simp; omega
      have h1:=itoaB_size ho.1.1 ho.1.2
      have h2:=itoaB_size ho.2.1 ho.2.2
      simp only []
      rw [m_spec_l11AgentText_L3,m_spec_l11AgentText_B3,dlt hi,cond_true,getI_lt hi,Option.bind_some,p_sDecimal _ ho.1.1 ho.1.2,Option.bind_some,catS_ok (by simp only [ba_app_size,sz1]; omega),Option.bind_some,catS_ok (by simp only [ba_app_size,sz1]; omega),Option.bind_some,Option.bind_some,p_sDecimal _ ho.2.1 ho.2.2,Option.bind_some,catS_ok (by simp only [ba_app_size,sz1]; omega),Option.bind_some,catS_ok (by simp only [ba_app_size,sz1]; omega),Option.bind_some,portsT_take hx]
      rfl)
    (fun g=>by
      simp only []
      rw [m_spec_l11AgentText_L3,m_spec_l11AgentText_B3,dge,cond_false,m_spec_l11AgentText_A3,List.take_length]) (x.ports.length+1) (Nat.lt_succ_self _)
  exact key
theorem sTail4 (x:DAgent) (hp :∀p∈x.ports,okP p) (hl:x.ports.length≤1000) (z:ByteArray) (hz:z.size≤100000):m_spec_l11AgentText_L4 x m_spec_l11AgentText_A4 (x.ports.length+1) z 0=some (portsT x.ports z):=by
  have key:=traj (L:=fun g (s:ByteArray × Int)=>m_spec_l11AgentText_L4 x m_spec_l11AgentText_A4 g s.1 s.2) (st:=fun i=>(portsT (x.ports.take i) z,(i:Int))) (n:=x.ports.length) (r:=some (portsT x.ports z))
    (fun g i hi=>by
      have hx:=List.getElem?_eq_getElem hi
      have ho:=hp x.ports[i] (List.getElem_mem hi)
      have hs:=portsT_size (ps:=x.ports.take i) (z:=z) (fun q hq=>hp q (List.mem_of_mem_take hq))
      have hlt:(x.ports.take i).length≤i:=by simp; omega
      have h1:=itoaB_size ho.1.1 ho.1.2
      have h2:=itoaB_size ho.2.1 ho.2.2
      simp only []
      rw [m_spec_l11AgentText_L4,m_spec_l11AgentText_B4,dlt hi,cond_true,getI_lt hi,Option.bind_some,p_sDecimal _ ho.1.1 ho.1.2,Option.bind_some,catS_ok (by simp only [ba_app_size,sz1]; omega),Option.bind_some,catS_ok (by simp only [ba_app_size,sz1]; omega),Option.bind_some,Option.bind_some,p_sDecimal _ ho.2.1 ho.2.2,Option.bind_some,catS_ok (by simp only [ba_app_size,sz1]; omega),Option.bind_some,catS_ok (by simp only [ba_app_size,sz1]; omega),Option.bind_some,portsT_take hx]
      rfl)
    (fun g=>by
      simp only []
      rw [m_spec_l11AgentText_L4,m_spec_l11AgentText_B4,dge,cond_false,m_spec_l11AgentText_A4,List.take_length]) (x.ports.length+1) (Nat.lt_succ_self _)
  exact key
theorem sTail5 (x:DAgent) (hp :∀p∈x.ports,okP p) (hl:x.ports.length≤1000) (z:ByteArray) (hz:z.size≤100000):m_spec_l11AgentText_L5 x m_spec_l11AgentText_A5 (x.ports.length+1) z 0=some (portsT x.ports z):=by
  have key:=traj (L:=fun g (s:ByteArray × Int)=>m_spec_l11AgentText_L5 x m_spec_l11AgentText_A5 g s.1 s.2) (st:=fun i=>(portsT (x.ports.take i) z,(i:Int))) (n:=x.ports.length) (r:=some (portsT x.ports z))
    (fun g i hi=>by
      have hx:=List.getElem?_eq_getElem hi
      have ho:=hp x.ports[i] (List.getElem_mem hi)
      have hs:=portsT_size (ps:=x.ports.take i) (z:=z) (fun q hq=>hp q (List.mem_of_mem_take hq))
      have hlt:(x.ports.take i).length≤i:=by simp; omega
      have h1:=itoaB_size ho.1.1 ho.1.2
      have h2:=itoaB_size ho.2.1 ho.2.2
      simp only []
      rw [m_spec_l11AgentText_L5,m_spec_l11AgentText_B5,dlt hi,cond_true,getI_lt hi,Option.bind_some,p_sDecimal _ ho.1.1 ho.1.2,Option.bind_some,catS_ok (by simp only [ba_app_size,sz1]; omega),Option.bind_some,catS_ok (by simp only [ba_app_size,sz1]; omega),Option.bind_some,Option.bind_some,p_sDecimal _ ho.2.1 ho.2.2,Option.bind_some,catS_ok (by simp only [ba_app_size,sz1]; omega),Option.bind_some,catS_ok (by simp only [ba_app_size,sz1]; omega),Option.bind_some,portsT_take hx]
      rfl)
    (fun g=>by
      simp only []
      rw [m_spec_l11AgentText_L5,m_spec_l11AgentText_B5,dge,cond_false,m_spec_l11AgentText_A5,List.take_length]) (x.ports.length+1) (Nat.lt_succ_self _)
  exact key
theorem sTail6 (x:DAgent) (hp :∀p∈x.ports,okP p) (hl:x.ports.length≤1000) (z:ByteArray) (hz:z.size≤100000):m_spec_l11AgentText_L6 x m_spec_l11AgentText_A6 (x.ports.length+1) z 0=some (portsT x.ports z):=by
  have key:=traj (L:=fun g (s:ByteArray × Int)=>m_spec_l11AgentText_L6 x m_spec_l11AgentText_A6 g s.1 s.2) (st:=fun i=>(portsT (x.ports.take i) z,(i:Int))) (n:=x.ports.length) (r:=some (portsT x.ports z))
    (fun g i hi=>by
      have hx:=List.getElem?_eq_getElem hi
      have ho:=hp x.ports[i] (List.getElem_mem hi)
      have hs:=portsT_size (ps:=x.ports.take i) (z:=z) (fun q hq=>hp q (List.mem_of_mem_take hq))
      have hlt:(x.ports.take i).length≤i:=by simp; omega
      have h1:=itoaB_size ho.1.1 ho.1.2
      have h2:=itoaB_size ho.2.1 ho.2.2
      simp only []
      rw [m_spec_l11AgentText_L6,m_spec_l11AgentText_B6,dlt hi,cond_true,getI_lt hi,Option.bind_some,p_sDecimal _ ho.1.1 ho.1.2,Option.bind_some,catS_ok (by simp only [ba_app_size,sz1]; omega),Option.bind_some,catS_ok (by simp only [ba_app_size,sz1]; omega),Option.bind_some,Option.bind_some,p_sDecimal _ ho.2.1 ho.2.2,Option.bind_some,catS_ok (by simp only [ba_app_size,sz1]; omega),Option.bind_some,catS_ok (by simp only [ba_app_size,sz1]; omega),Option.bind_some,portsT_take hx]
      rfl)
    (fun g=>by
      simp only []
      rw [m_spec_l11AgentText_L6,m_spec_l11AgentText_B6,dge,cond_false,m_spec_l11AgentText_A6,List.take_length]) (x.ports.length+1) (Nat.lt_succ_self _)
  exact key
theorem iTail1 (x:DAgent) (hp :∀p∈x.ports,okP p) (hl:x.ports.length≤1000) (z:ByteArray) (hz:z.size≤100000):m_impl_agentText_L1 x m_impl_agentText_A1 (x.ports.length+1) 0 z=some (portsT x.ports z):=by
  have key:=traj (L:=fun g (s:Int × ByteArray)=>m_impl_agentText_L1 x m_impl_agentText_A1 g s.1 s.2) (st:=fun i=>((i:Int),portsT (x.ports.take i) z)) (n:=x.ports.length) (r:=some (portsT x.ports z))
    (fun g i hi=>by
      have hx:=List.getElem?_eq_getElem hi
      have ho:=hp x.ports[i] (List.getElem_mem hi)
      have hs:=portsT_size (ps:=x.ports.take i) (z:=z) (fun q hq=>hp q (List.mem_of_mem_take hq))
      have hlt:(x.ports.take i).length≤i:=by simp; omega
      have h1:=itoaB_size ho.1.1 ho.1.2
      have h2:=itoaB_size ho.2.1 ho.2.2
      simp only []
      rw [m_impl_agentText_L1,m_impl_agentText_B1,dlt hi,cond_true,getI_lt hi,Option.bind_some,p_iDecimal ho.1,Option.bind_some,catS_ok (by simp only [ba_app_size,sz1]; omega),Option.bind_some,catS_ok (by simp only [ba_app_size,sz1]; omega),Option.bind_some,p_iDecimal ho.2,Option.bind_some,catS_ok (by simp only [ba_app_size,sz1]; omega),Option.bind_some,wrS_ok (by simp only [ba_app_size,sz1]; omega),Option.bind_some,portsT_take hx]
      rfl)
    (fun g=>by
      simp only []
      rw [m_impl_agentText_L1,m_impl_agentText_B1,dge,cond_false,m_impl_agentText_A1,List.take_length]) (x.ports.length+1) (Nat.lt_succ_self _)
  exact key
theorem iTail2 (x:DAgent) (hp :∀p∈x.ports,okP p) (hl:x.ports.length≤1000) (z:ByteArray) (hz:z.size≤100000):m_impl_agentText_L2 x m_impl_agentText_A2 (x.ports.length+1) 0 z=some (portsT x.ports z):=by
  have key:=traj (L:=fun g (s:Int × ByteArray)=>m_impl_agentText_L2 x m_impl_agentText_A2 g s.1 s.2) (st:=fun i=>((i:Int),portsT (x.ports.take i) z)) (n:=x.ports.length) (r:=some (portsT x.ports z))
    (fun g i hi=>by
      have hx:=List.getElem?_eq_getElem hi
      have ho:=hp x.ports[i] (List.getElem_mem hi)
      have hs:=portsT_size (ps:=x.ports.take i) (z:=z) (fun q hq=>hp q (List.mem_of_mem_take hq))
      have hlt:(x.ports.take i).length≤i:=by simp; omega
      have h1:=itoaB_size ho.1.1 ho.1.2
      have h2:=itoaB_size ho.2.1 ho.2.2
      simp only []
      rw [m_impl_agentText_L2,m_impl_agentText_B2,dlt hi,cond_true,getI_lt hi,Option.bind_some,p_iDecimal ho.1,Option.bind_some,catS_ok (by simp only [ba_app_size,sz1]; omega),Option.bind_some,catS_ok (by simp only [ba_app_size,sz1]; omega),Option.bind_some,p_iDecimal ho.2,Option.bind_some,catS_ok (by simp only [ba_app_size,sz1]; omega),Option.bind_some,wrS_ok (by simp only [ba_app_size,sz1]; omega),Option.bind_some,portsT_take hx]
      rfl)
    (fun g=>by
      simp only []
      rw [m_impl_agentText_L2,m_impl_agentText_B2,dge,cond_false,m_impl_agentText_A2,List.take_length]) (x.ports.length+1) (Nat.lt_succ_self _)
  exact key
theorem iTail3 (x:DAgent) (hp :∀p∈x.ports,okP p) (hl:x.ports.length≤1000) (z:ByteArray) (hz:z.size≤100000):m_impl_agentText_L3 x m_impl_agentText_A3 (x.ports.length+1) 0 z=some (portsT x.ports z):=by
  have key:=traj (L:=fun g (s:Int × ByteArray)=>m_impl_agentText_L3 x m_impl_agentText_A3 g s.1 s.2) (st:=fun i=>((i:Int),portsT (x.ports.take i) z)) (n:=x.ports.length) (r:=some (portsT x.ports z))
    (fun g i hi=>by
      have hx:=List.getElem?_eq_getElem hi
      have ho:=hp x.ports[i] (List.getElem_mem hi)
      have hs:=portsT_size (ps:=x.ports.take i) (z:=z) (fun q hq=>hp q (List.mem_of_mem_take hq))
      have hlt:(x.ports.take i).length≤i:=by simp; omega
      have h1:=itoaB_size ho.1.1 ho.1.2
      have h2:=itoaB_size ho.2.1 ho.2.2
      simp only []
      rw [m_impl_agentText_L3,m_impl_agentText_B3,dlt hi,cond_true,getI_lt hi,Option.bind_some,p_iDecimal ho.1,Option.bind_some,catS_ok (by simp only [ba_app_size,sz1]; omega),Option.bind_some,catS_ok (by simp only [ba_app_size,sz1]; omega),Option.bind_some,p_iDecimal ho.2,Option.bind_some,catS_ok (by simp only [ba_app_size,sz1]; omega),Option.bind_some,wrS_ok (by simp only [ba_app_size,sz1]; omega),Option.bind_some,portsT_take hx]
      rfl)
    (fun g=>by
      simp only []
      rw [m_impl_agentText_L3,m_impl_agentText_B3,dge,cond_false,m_impl_agentText_A3,List.take_length]) (x.ports.length+1) (Nat.lt_succ_self _)
  exact key
theorem iTail4 (x:DAgent) (hp :∀p∈x.ports,okP p) (hl:x.ports.length≤1000) (z:ByteArray) (hz:z.size≤100000):m_impl_agentText_L4 x m_impl_agentText_A4 (x.ports.length+1) 0 z=some (portsT x.ports z):=by
  have key:=traj (L:=fun g (s:Int × ByteArray)=>m_impl_agentText_L4 x m_impl_agentText_A4 g s.1 s.2) (st:=fun i=>((i:Int),portsT (x.ports.take i) z)) (n:=x.ports.length) (r:=some (portsT x.ports z))
    (fun g i hi=>by
      have hx:=List.getElem?_eq_getElem hi
      have ho:=hp x.ports[i] (List.getElem_mem hi)
      have hs:=portsT_size (ps:=x.ports.take i) (z:=z) (fun q hq=>hp q (List.mem_of_mem_take hq))
      have hlt:(x.ports.take i).length≤i:=by simp; omega
      have h1:=itoaB_size ho.1.1 ho.1.2
      have h2:=itoaB_size ho.2.1 ho.2.2
      simp only []
      rw [m_impl_agentText_L4,m_impl_agentText_B4,dlt hi,cond_true,getI_lt hi,Option.bind_some,p_iDecimal ho.1,Option.bind_some,catS_ok (by simp only [ba_app_size,sz1]; omega),Option.bind_some,catS_ok (by simp only [ba_app_size,sz1]; omega),Option.bind_some,p_iDecimal ho.2,Option.bind_some,catS_ok (by simp only [ba_app_size,sz1]; omega),Option.bind_some,wrS_ok (by simp only [ba_app_size,sz1]; omega),Option.bind_some,portsT_take hx]
      rfl)
    (fun g=>by
      simp only []
      rw [m_impl_agentText_L4,m_impl_agentText_B4,dge,cond_false,m_impl_agentText_A4,List.take_length]) (x.ports.length+1) (Nat.lt_succ_self _)
  exact key
theorem iTail5 (x:DAgent) (hp :∀p∈x.ports,okP p) (hl:x.ports.length≤1000) (z:ByteArray) (hz:z.size≤100000):m_impl_agentText_L5 x m_impl_agentText_A5 (x.ports.length+1) 0 z=some (portsT x.ports z):=by
  have key:=traj (L:=fun g (s:Int × ByteArray)=>m_impl_agentText_L5 x m_impl_agentText_A5 g s.1 s.2) (st:=fun i=>((i:Int),portsT (x.ports.take i) z)) (n:=x.ports.length) (r:=some (portsT x.ports z))
    (fun g i hi=>by
      have hx:=List.getElem?_eq_getElem hi
      have ho:=hp x.ports[i] (List.getElem_mem hi)
      have hs:=portsT_size (ps:=x.ports.take i) (z:=z) (fun q hq=>hp q (List.mem_of_mem_take hq))
      have hlt:(x.ports.take i).length≤i:=by simp; omega
      have h1:=itoaB_size ho.1.1 ho.1.2
      have h2:=itoaB_size ho.2.1 ho.2.2
      simp only []
      rw [m_impl_agentText_L5,m_impl_agentText_B5,dlt hi,cond_true,getI_lt hi,Option.bind_some,p_iDecimal ho.1,Option.bind_some,catS_ok (by simp only [ba_app_size,sz1]; omega),Option.bind_some,catS_ok (by simp only [ba_app_size,sz1]; omega),Option.bind_some,p_iDecimal ho.2,Option.bind_some,catS_ok (by simp only [ba_app_size,sz1]; omega),Option.bind_some,wrS_ok (by simp only [ba_app_size,sz1]; omega),Option.bind_some,portsT_take hx]
      rfl)
    (fun g=>by
      simp only []
      rw [m_impl_agentText_L5,m_impl_agentText_B5,dge,cond_false,m_impl_agentText_A5,List.take_length]) (x.ports.length+1) (Nat.lt_succ_self _)
  exact key
theorem iTail6 (x:DAgent) (hp :∀p∈x.ports,okP p) (hl:x.ports.length≤1000) (z:ByteArray) (hz:z.size≤100000):m_impl_agentText_L6 x m_impl_agentText_A6 (x.ports.length+1) 0 z=some (portsT x.ports z):=by
  have key:=traj (L:=fun g (s:Int × ByteArray)=>m_impl_agentText_L6 x m_impl_agentText_A6 g s.1 s.2) (st:=fun i=>((i:Int),portsT (x.ports.take i) z)) (n:=x.ports.length) (r:=some (portsT x.ports z))
    (fun g i hi=>by
      have hx:=List.getElem?_eq_getElem hi
      have ho:=hp x.ports[i] (List.getElem_mem hi)
      have hs:=portsT_size (ps:=x.ports.take i) (z:=z) (fun q hq=>hp q (List.mem_of_mem_take hq))
      have hlt:(x.ports.take i).length≤i:=by simp; omega
      have h1:=itoaB_size ho.1.1 ho.1.2
      have h2:=itoaB_size ho.2.1 ho.2.2
      simp only []
      rw [m_impl_agentText_L6,m_impl_agentText_B6,dlt hi,cond_true,getI_lt hi,Option.bind_some,p_iDecimal ho.1,Option.bind_some,catS_ok (by simp only [ba_app_size,sz1]; omega),Option.bind_some,catS_ok (by simp only [ba_app_size,sz1]; omega),Option.bind_some,p_iDecimal ho.2,Option.bind_some,catS_ok (by simp only [ba_app_size,sz1]; omega),Option.bind_some,wrS_ok (by simp only [ba_app_size,sz1]; omega),Option.bind_some,portsT_take hx]
      rfl)
    (fun g=>by
      simp only []
      rw [m_impl_agentText_L6,m_impl_agentText_B6,dge,cond_false,m_impl_agentText_A6,List.take_length]) (x.ports.length+1) (Nat.lt_succ_self _)
  exact key
end
section
open Go.RowKit Go.Sort
def turnC (a b c:UInt8):UInt8:=if c=a then b else c
theorem index_head (a:UInt8) (s:List UInt8):Lib.index (a :: s) [a] = 0:=Lib.index_first (i:=0) (Nat.zero_le _) (by simp [Lib.occAt]) (fun _ h=>absurd h (Nat.not_lt_zero _))
theorem index_tail {a c:UInt8} {s:List UInt8} {i:Nat} (h:c ≠ a) (hi:Lib.index s [a] = i):Lib.index (c :: s) [a] = (i+1:Nat):=by
  have hno:Lib.NoOcc (c :: s) [a] 1:=Lib.NoOcc.succ (Lib.NoOcc.zero _ _) (by
    cases ho:Lib.occAt (c :: s) [a] 0 with
    |false=>rfl
    |true=>
      have:=Lib.occAt_head (t:=[]) rfl ho
      simp at this
      exact absurd this h)
  rw [Lib.index_drop hno (by simp),List.drop_one,List.tail_cons,hi,if_neg (by simp)]
  try omega
theorem replaceK_one (a b:UInt8) :∀s:List UInt8,Lib.replaceK [a] [b] (Lib.count s [a]) s=s.map (turnC a b)
  |[]=>by rw [Lib.count_one]; rfl
  |c :: s=>by
    have ih:=replaceK_one a b s
    by_cases h:c=a
    · subst h
      rw [Lib.count_cons_eq,Nat.add_comm,Lib.replaceK_hit _ _ _ _ 0 (index_head c s)]
      simp [turnC,ih]
    · rw [Lib.count_cons_ne c a s h]
      cases hn:Lib.count s [a] with
      |zero=>
        rw [hn] at ih
        simp only [Lib.replaceK] at ih ⊢
        rw [List.map_cons,← ih]
        simp [turnC,h]
      |succ m=>
        obtain ⟨i,hi⟩:=Lib.index_of_count (s:=s) (old:=[a]) (by omega)
        rw [Lib.replaceK_hit _ _ _ _ (i+1) (index_tail h hi),List.map_cons,← ih,hn,Lib.replaceK_hit _ _ _ _ i hi]
        simp [turnC,h]
theorem replaceAll_one {a b:UInt8} (h:a ≠ b) (s:List UInt8):Lib.replaceAll s [a] [b] = s.map (turnC a b):=by
  unfold Lib.replaceAll Lib.replace Lib.replaceNum
  rw [if_neg (by simpa using h),if_pos (Or.inl (by decide))]
  exact replaceK_one a b s
theorem decDigits_mem :∀(u:Nat),∀c∈Lib.decDigits u,48≤c.toNat∧c.toNat≤57:=by
  intro u
  induction u using Nat.strongRecOn with
  |ind u ih=>
    intro c hc
    rw [Lib.decDigits] at hc
    have hd :∀d:Nat,d < 10→(UInt8.ofNat (48+d)).toNat=48+d:=fun d h=>by
      rw [UInt8.toNat_ofNat']
      exact Nat.mod_eq_of_lt (by omega)
    by_cases h1:u < 10
    · rw [dif_pos h1,List.mem_singleton] at hc
      rw [hc,hd u h1]
      omega
    · rw [dif_neg h1,List.mem_append,List.mem_singleton] at hc
      rcases hc with hc|hc
      · exact ih (u / 10) (by omega) c hc
      · rw [hc,hd (u % 10) (by omega)]
        omega
theorem itoa_mem {n:Int} {c:UInt8} (h:c∈Lib.itoa n):c.toNat=45 ∨ (48≤c.toNat∧c.toNat≤57):=by
  unfold Lib.itoa at h
  split at h
  · rcases List.mem_cons.1 h with h|h
    · rw [h]; exact .inl rfl
    · exact .inr (decDigits_mem _ c h)
  · exact .inr (decDigits_mem _ c h)
theorem turn_join (a b:UInt8) :∀(xs:List (List UInt8)),(∀x∈xs,∀c∈x,c ≠ a)→(Lib.join xs [a]).map (turnC a b)=Lib.join xs [b]:=by
  have tail :∀(xs:List (List UInt8)),(∀x∈xs,∀c∈x,c ≠ a)→(Lib.joinTail [a] xs).map (turnC a b)=Lib.joinTail [b] xs:=by
    intro xs
    induction xs with
    |nil=>intro _; rfl
    |cons x xs ih=>
      intro h
      have hx:x.map (turnC a b)=x:=by
        conv=>rhs; rw [← List.map_id x]
        exact List.map_congr_left (fun c hc=>by simp [turnC,h x (by simp) c hc])
      have e :∀c,Lib.joinTail [c] (x :: xs)=[c] ++ x ++ Lib.joinTail [c] xs:=fun c=>by simp [Lib.joinTail]
      rw [e,e,List.map_append,List.map_append,hx,ih (fun y hy=>h y (by simp [hy]))]
      simp [turnC]
  intro xs h
  cases xs with
  |nil=>rfl
  |cons x xs=>
    have hx:x.map (turnC a b)=x:=by
      conv=>rhs; rw [← List.map_id x]
      exact List.map_congr_left (fun c hc=>by simp [turnC,h x (by simp) c hc])
    rw [Lib.join_cons,Lib.join_cons,List.map_append,hx,tail xs (fun y hy=>h y (by simp [hy]))]
theorem p_repl (l:List Int) (h :∀x∈l,okI x) (hl:l.length≤1000):replM (numsB l 32) (ByteArray.mk #[32]) (ByteArray.mk #[44])=some (numsB l 44):=by
  have hs:=numsB_size (c:=32) h
  have hc:Lib.countB (numsB l 32) (ByteArray.mk #[32])≤(numsB l 32).size:=Lib.countB_le _ (by decide) _ _ (Nat.le_refl _)
  rw [replM,if_pos ⟨by omega,by decide,by rw [sz1]; omega⟩]
  congr 1
  refine ba_ext ?_
  unfold replB
  show Lib.replaceAll (numsB l 32).data.toList [32] [44] = _
  rw [replaceAll_one (by decide)]
  have:=turn_join 32 44 (l.map fun n=>Lib.itoa n) (fun x hx c hc e=>by
    obtain ⟨n,_,rfl⟩:=List.mem_map.1 hx
    have:=itoa_mem hc
    subst e
    simp at this)
  simp only [numsB,joinB,List.map_map]
  exact this
end
section
open Go.RowKit Go.Sort
def opT (n:Int):ByteArray:=if n=1 then ByteArray.mk #[43] else if n=2 then ByteArray.mk #[45] else if n=3 then ByteArray.mk #[42] else if n=4 then ByteArray.mk #[47] else if n=5 then ByteArray.mk #[60] else if n=6 then ByteArray.mk #[61] else ByteArray.mk #[]
theorem oper_cases {n:Int} (h:operB n=true):n=1 ∨ n=2 ∨ n=3 ∨ n=4 ∨ n=5 ∨ n=6:=by
  unfold operB at h
  simp at h
  omega
theorem opT_size {n:Int} (h:operB n=true):(opT n).size=1:=by
  rcases oper_cases h with rfl|rfl|rfl|rfl|rfl|rfl <;> rfl
theorem p_sOper {n:Int} (h:operB n=true):m_spec_OperatorText n=some (opT n):=by
  rcases oper_cases h with rfl|rfl|rfl|rfl|rfl|rfl <;> rfl
theorem p_iOper {n:Int} (h:operB n=true):m_impl_OperatorText n=some (opT n):=by
  rw [m_impl_OperatorText,p_isOper,Option.bind_some,h,cond_true]
  rcases oper_cases h with rfl|rfl|rfl|rfl|rfl|rfl <;> rfl
/-- What an agent's text has behind its name and level. -/
def bodyT (x:DAgent):ByteArray:=if x.kind=6 ∨ x.kind=9 ∨ x.kind=12 then ByteArray.mk #[61] ++ itoaB x.value else if x.kind=7 then ByteArray.mk #[61] ++ opT x.value else if x.kind=8 then ByteArray.mk #[61] ++ opT x.value ++ ByteArray.mk #[44] ++ numsB x.data 44 else if x.kind=10 ∨ x.kind=11 then ByteArray.mk #[61] ++ numsB x.data 44 else ByteArray.mk #[]
def headT (x:DAgent):ByteArray:=if hasLevel x.kind=true then kindName x.kind ++ (ByteArray.mk #[47] ++ itoaB x.level) else kindName x.kind
def agT (x:DAgent):ByteArray:=portsT x.ports (headT x ++ bodyT x)
theorem okI_32 {n:Int} (h:int32B n=true):okI n:=by unfold int32B at h; simp at h; unfold okI; omega
theorem okI_def {n:Int} (h:defIx n=true):okI n:=by unfold defIx at h; simp at h; unfold okI; omega
theorem kind_name_size (k:Int):(kindName k).size≤4:=by
  by_cases h:k < 1 ∨ 12 < k
  · rw [kindName_out h]; decide
  · have hk:k=1 ∨ k=2 ∨ k=3 ∨ k=4 ∨ k=5 ∨ k=6 ∨ k=7 ∨ k=8 ∨ k=9 ∨ k=10 ∨ k=11 ∨ k=12:=by omega
    rcases hk with rfl|rfl|rfl|rfl|rfl|rfl|rfl|rfl|rfl|rfl|rfl|rfl <;> decide
theorem sAj (x:DAgent) (hk:content x.kind x.value x.data=true) (hp :∀p∈x.ports,okP p) (hl:x.ports.length≤1000) (z:ByteArray) (hz:z.size≤1000):m_spec_l11AgentText_Aj1 x z=some (portsT x.ports (z ++ bodyT x)):=by
  have hc:x.kind=6 ∨ x.kind=9 ∨ x.kind=12 ∨ x.kind=7 ∨ x.kind=8 ∨ x.kind=10 ∨ x.kind=11 ∨ (¬ x.kind=6∧¬ x.kind=9∧¬ x.kind=12∧¬ x.kind=7∧¬ x.kind=8∧¬ x.kind=10∧¬ x.kind=11):=by omega
  rcases hc with e|e|e|e|e|e|e|e
  · have c6:(x.kind==6)=true:=by rw [e]; rfl
    have c9:(x.kind==9)=false:=by rw [e]; rfl
    have c12:(x.kind==12)=false:=by rw [e]; rfl
    have c7:(x.kind==7)=false:=by rw [e]; rfl
    have c8:(x.kind==8)=false:=by rw [e]; rfl
    have c10:(x.kind==10)=false:=by rw [e]; rfl
    have c11:(x.kind==11)=false:=by rw [e]; rfl
    have hb:bodyT x=ByteArray.mk #[61] ++ itoaB x.value:=by unfold bodyT; rw [e]; rfl
    have ho:okI x.value:=by rw [e] at hk; simp [content] at hk; exact okI_32 hk.2
    have hs:=itoaB_size ho.1 ho.2
    simp -implicitDefEqProofs only [m_spec_l11AgentText_Aj1,m_spec_l11AgentText_Aj2,c6,c9,c12,c7,c8,c10,c11,cond_true,cond_false]
    rw [p_sDecimal _ ho.1 ho.2,Option.bind_some,catS_ok (by simp only [ba_app_size,sz1]; omega),Option.bind_some,catS_ok (by simp only [ba_app_size,sz1]; omega),Option.bind_some,sTail6 x hp hl _ (by simp only [ba_app_size,sz1]; omega),hb]
  · have c6:(x.kind==6)=false:=by rw [e]; rfl
    have c9:(x.kind==9)=true:=by rw [e]; rfl
    have c12:(x.kind==12)=false:=by rw [e]; rfl
    have c7:(x.kind==7)=false:=by rw [e]; rfl
    have c8:(x.kind==8)=false:=by rw [e]; rfl
    have c10:(x.kind==10)=false:=by rw [e]; rfl
    have c11:(x.kind==11)=false:=by rw [e]; rfl
    have hb:bodyT x=ByteArray.mk #[61] ++ itoaB x.value:=by unfold bodyT; rw [e]; rfl
    have ho:okI x.value:=by rw [e] at hk; simp [content] at hk; unfold okI; omega
    have hs:=itoaB_size ho.1 ho.2
    simp -implicitDefEqProofs only [m_spec_l11AgentText_Aj1,m_spec_l11AgentText_Aj2,c6,c9,c12,c7,c8,c10,c11,cond_true,cond_false]
    rw [p_sDecimal _ ho.1 ho.2,Option.bind_some,catS_ok (by simp only [ba_app_size,sz1]; omega),Option.bind_some,catS_ok (by simp only [ba_app_size,sz1]; omega),Option.bind_some,sTail6 x hp hl _ (by simp only [ba_app_size,sz1]; omega),hb]
  · have c6:(x.kind==6)=false:=by rw [e]; rfl
    have c9:(x.kind==9)=false:=by rw [e]; rfl
    have c12:(x.kind==12)=true:=by rw [e]; rfl
    have c7:(x.kind==7)=false:=by rw [e]; rfl
    have c8:(x.kind==8)=false:=by rw [e]; rfl
    have c10:(x.kind==10)=false:=by rw [e]; rfl
    have c11:(x.kind==11)=false:=by rw [e]; rfl
    have hb:bodyT x=ByteArray.mk #[61] ++ itoaB x.value:=by unfold bodyT; rw [e]; rfl
    have ho:okI x.value:=by rw [e] at hk; simp [content] at hk; exact okI_def hk.2
    have hs:=itoaB_size ho.1 ho.2
    simp -implicitDefEqProofs only [m_spec_l11AgentText_Aj1,m_spec_l11AgentText_Aj2,c6,c9,c12,c7,c8,c10,c11,cond_true,cond_false]
    rw [p_sDecimal _ ho.1 ho.2,Option.bind_some,catS_ok (by simp only [ba_app_size,sz1]; omega),Option.bind_some,catS_ok (by simp only [ba_app_size,sz1]; omega),Option.bind_some,sTail6 x hp hl _ (by simp only [ba_app_size,sz1]; omega),hb]
  · have c6:(x.kind==6)=false:=by rw [e]; rfl
    have c9:(x.kind==9)=false:=by rw [e]; rfl
    have c12:(x.kind==12)=false:=by rw [e]; rfl
    have c7:(x.kind==7)=true:=by rw [e]; rfl
    have c8:(x.kind==8)=false:=by rw [e]; rfl
    have c10:(x.kind==10)=false:=by rw [e]; rfl
    have c11:(x.kind==11)=false:=by rw [e]; rfl
    have hb:bodyT x=ByteArray.mk #[61] ++ opT x.value:=by unfold bodyT; rw [e]; rfl
    have ho:operB x.value=true:=by rw [e] at hk; simp [content] at hk; exact hk.2
    have hs:=opT_size ho
    simp -implicitDefEqProofs only [m_spec_l11AgentText_Aj1,m_spec_l11AgentText_Aj2,c6,c9,c12,c7,c8,c10,c11,cond_true,cond_false]
    rw [p_sOper ho,Option.bind_some,catS_ok (by simp only [ba_app_size,sz1]; omega),Option.bind_some,catS_ok (by simp only [ba_app_size,sz1]; omega),Option.bind_some,sTail5 x hp hl _ (by simp only [ba_app_size,sz1]; omega),hb]
  · have c6:(x.kind==6)=false:=by rw [e]; rfl
    have c9:(x.kind==9)=false:=by rw [e]; rfl
    have c12:(x.kind==12)=false:=by rw [e]; rfl
    have c7:(x.kind==7)=false:=by rw [e]; rfl
    have c8:(x.kind==8)=true:=by rw [e]; rfl
    have c10:(x.kind==10)=false:=by rw [e]; rfl
    have c11:(x.kind==11)=false:=by rw [e]; rfl
    have hb:bodyT x=ByteArray.mk #[61] ++ opT x.value ++ ByteArray.mk #[44] ++ numsB x.data 44:=by unfold bodyT; rw [e]; rfl
    have hk':x.data.length=1∧operB x.value=true∧int32B (x.data.getD 0 0)=true:=by rw [e] at hk; simp [content] at hk; simpa [List.getD,and_assoc] using hk
    obtain ⟨h1,ho,h3⟩:=hk'
    obtain ⟨n,hn⟩ :∃n,x.data=[n]:=by
      cases hx:x.data with
      |nil=>rw [hx] at h1; simp at h1
      |cons a r=>
        rw [hx] at h1
        cases r with
        |nil=>exact ⟨a,rfl⟩
        |cons b r=>simp at h1
    have h3:int32B n=true:=by rw [hn] at h3; exact h3
    have hi:=okI_32 h3
    have hd :∀y∈x.data,okI y:=fun y hy=>by rw [hn] at hy; simp at hy; rw [hy]; exact hi
    have hdl:x.data.length≤1000:=by omega
    have hs:=opT_size ho
    have hs2:=numsB_size (c:=44) hd
    have hs3:=itoaB_size hi.1 hi.2
    simp -implicitDefEqProofs only [m_spec_l11AgentText_Aj1,m_spec_l11AgentText_Aj2,c6,c9,c12,c7,c8,c10,c11,cond_true,cond_false]
    rw [p_sOper ho,Option.bind_some,catS_ok (by simp only [ba_app_size,sz1]; omega),Option.bind_some,catS_ok (by simp only [ba_app_size,sz1]; omega),Option.bind_some,p_sNumbers _ hd hdl,Option.bind_some,catS_ok (by simp only [ba_app_size,sz1]; omega),Option.bind_some,catS_ok (by simp only [ba_app_size,sz1]; omega),Option.bind_some,sTail4 x hp hl _ (by simp only [ba_app_size,sz1]; omega),hb]
  · have c6:(x.kind==6)=false:=by rw [e]; rfl
    have c9:(x.kind==9)=false:=by rw [e]; rfl
    have c12:(x.kind==12)=false:=by rw [e]; rfl
    have c7:(x.kind==7)=false:=by rw [e]; rfl
    have c8:(x.kind==8)=false:=by rw [e]; rfl
    have c10:(x.kind==10)=true:=by rw [e]; rfl
    have c11:(x.kind==11)=false:=by rw [e]; rfl
    have hb:bodyT x=ByteArray.mk #[61] ++ numsB x.data 44:=by unfold bodyT; rw [e]; rfl
    have hd :∀y∈x.data,okI y:=by rw [e] at hk; simp only [content] at hk; simp at hk; exact fun y hy=>okI_def (hk.2 y hy)
    have hdl:x.data.length≤4:=by rw [e] at hk; simp [content] at hk; omega
    have hs2:=numsB_size (c:=44) hd
    have hdl:x.data.length≤1000:=by omega
    simp -implicitDefEqProofs only [m_spec_l11AgentText_Aj1,m_spec_l11AgentText_Aj2,c6,c9,c12,c7,c8,c10,c11,cond_true,cond_false]
    rw [p_sNumbers _ hd hdl,Option.bind_some,catS_ok (by simp only [ba_app_size,sz1]; omega),Option.bind_some,catS_ok (by simp only [ba_app_size,sz1]; omega),Option.bind_some,sTail3 x hp hl _ (by simp only [ba_app_size,sz1]; omega),hb]
  · have c6:(x.kind==6)=false:=by rw [e]; rfl
    have c9:(x.kind==9)=false:=by rw [e]; rfl
    have c12:(x.kind==12)=false:=by rw [e]; rfl
    have c7:(x.kind==7)=false:=by rw [e]; rfl
    have c8:(x.kind==8)=false:=by rw [e]; rfl
    have c10:(x.kind==10)=false:=by rw [e]; rfl
    have c11:(x.kind==11)=true:=by rw [e]; rfl
    have hb:bodyT x=ByteArray.mk #[61] ++ numsB x.data 44:=by unfold bodyT; rw [e]; rfl
    have hd :∀y∈x.data,okI y:=by rw [e] at hk; simp only [content] at hk; simp at hk; exact fun y hy=>okI_def (hk.2 y hy)
    have hdl:x.data.length≤4:=by rw [e] at hk; simp [content] at hk; omega
    have hs2:=numsB_size (c:=44) hd
    have hdl:x.data.length≤1000:=by omega
    simp -implicitDefEqProofs only [m_spec_l11AgentText_Aj1,m_spec_l11AgentText_Aj2,c6,c9,c12,c7,c8,c10,c11,cond_true,cond_false]
    rw [p_sNumbers _ hd hdl,Option.bind_some,catS_ok (by simp only [ba_app_size,sz1]; omega),Option.bind_some,catS_ok (by simp only [ba_app_size,sz1]; omega),Option.bind_some,sTail2 x hp hl _ (by simp only [ba_app_size,sz1]; omega),hb]
  · have c6:(x.kind==6)=false:=by simpa using e.1
    have c9:(x.kind==9)=false:=by simpa using e.2.1
    have c12:(x.kind==12)=false:=by simpa using e.2.2.1
    have c7:(x.kind==7)=false:=by simpa using e.2.2.2.1
    have c8:(x.kind==8)=false:=by simpa using e.2.2.2.2.1
    have c10:(x.kind==10)=false:=by simpa using e.2.2.2.2.2.1
    have c11:(x.kind==11)=false:=by simpa using e.2.2.2.2.2.2
    have hb:bodyT x=ByteArray.mk #[]:=by unfold bodyT; rw [if_neg (by omega),if_neg (by omega),if_neg (by omega),if_neg (by omega)]
    simp -implicitDefEqProofs only [m_spec_l11AgentText_Aj1,m_spec_l11AgentText_Aj2,c6,c9,c12,c7,c8,c10,c11,cond_true,cond_false]
    rw [sTail1 x hp hl _ (by omega),hb,app_e]
theorem p_sAgentT (x:DAgent) (hk:content x.kind x.value x.data=true) (hv:okI x.level) (hp :∀p∈x.ports,okP p) (hl:x.ports.length≤1000):m_spec_l11AgentText x=some (agT x):=by
  have h1:=kind_name_size x.kind
  have h2:=itoaB_size hv.1 hv.2
  unfold m_spec_l11AgentText agT headT
  cases hasLevel x.kind with
  |false=>
    rw [cond_false,sAj x hk hp hl _ (by omega),if_neg (by decide)]
  |true=>
    rw [cond_true,p_sDecimal _ hv.1 hv.2,Option.bind_some,catS_ok (by rw [sz1]; omega),Option.bind_some,catS_ok (by simp only [ba_app_size,sz1]; omega),Option.bind_some,sAj x hk hp hl _ (by simp only [ba_app_size,sz1]; omega),if_pos rfl]
theorem iAj (x:DAgent) (hk:content x.kind x.value x.data=true) (hp :∀p∈x.ports,okP p) (hl:x.ports.length≤1000) (z:ByteArray) (hz:z.size≤1000):m_impl_agentText_Aj1 x z=some (portsT x.ports (z ++ bodyT x)):=by
  have hc:x.kind=6 ∨ x.kind=9 ∨ x.kind=12 ∨ x.kind=7 ∨ x.kind=8 ∨ x.kind=10 ∨ x.kind=11 ∨ (¬ x.kind=6∧¬ x.kind=9∧¬ x.kind=12∧¬ x.kind=7∧¬ x.kind=8∧¬ x.kind=10∧¬ x.kind=11):=by omega
  rcases hc with e|e|e|e|e|e|e|e
  · have c6:(x.kind==6)=true:=by rw [e]; rfl
    have c9:(x.kind==9)=false:=by rw [e]; rfl
    have c12:(x.kind==12)=false:=by rw [e]; rfl
    have c7:(x.kind==7)=false:=by rw [e]; rfl
    have c8:(x.kind==8)=false:=by rw [e]; rfl
    have c10:(x.kind==10)=false:=by rw [e]; rfl
    have c11:(x.kind==11)=false:=by rw [e]; rfl
    have hb:bodyT x=ByteArray.mk #[61] ++ itoaB x.value:=by unfold bodyT; rw [e]; rfl
    have ho:okI x.value:=by rw [e] at hk; simp [content] at hk; exact okI_32 hk.2
    have hs:=itoaB_size ho.1 ho.2
    simp -implicitDefEqProofs only [m_impl_agentText_Aj1,m_impl_agentText_Aj2,c6,c9,c12,c7,c8,c10,c11,cond_true,cond_false]
    rw [p_iDecimal ho,Option.bind_some,catS_ok (by simp only [ba_app_size,sz1]; omega),Option.bind_some,wrS_ok (by simp only [ba_app_size,sz1]; omega),Option.bind_some,iTail6 x hp hl _ (by simp only [ba_app_size,sz1]; omega),hb]
  · have c6:(x.kind==6)=false:=by rw [e]; rfl
    have c9:(x.kind==9)=true:=by rw [e]; rfl
    have c12:(x.kind==12)=false:=by rw [e]; rfl
    have c7:(x.kind==7)=false:=by rw [e]; rfl
    have c8:(x.kind==8)=false:=by rw [e]; rfl
    have c10:(x.kind==10)=false:=by rw [e]; rfl
    have c11:(x.kind==11)=false:=by rw [e]; rfl
    have hb:bodyT x=ByteArray.mk #[61] ++ itoaB x.value:=by unfold bodyT; rw [e]; rfl
    have ho:okI x.value:=by rw [e] at hk; simp [content] at hk; unfold okI; omega
    have hs:=itoaB_size ho.1 ho.2
    simp -implicitDefEqProofs only [m_impl_agentText_Aj1,m_impl_agentText_Aj2,c6,c9,c12,c7,c8,c10,c11,cond_true,cond_false]
    rw [p_iDecimal ho,Option.bind_some,catS_ok (by simp only [ba_app_size,sz1]; omega),Option.bind_some,wrS_ok (by simp only [ba_app_size,sz1]; omega),Option.bind_some,iTail6 x hp hl _ (by simp only [ba_app_size,sz1]; omega),hb]
  · have c6:(x.kind==6)=false:=by rw [e]; rfl
    have c9:(x.kind==9)=false:=by rw [e]; rfl
    have c12:(x.kind==12)=true:=by rw [e]; rfl
    have c7:(x.kind==7)=false:=by rw [e]; rfl
    have c8:(x.kind==8)=false:=by rw [e]; rfl
    have c10:(x.kind==10)=false:=by rw [e]; rfl
    have c11:(x.kind==11)=false:=by rw [e]; rfl
    have hb:bodyT x=ByteArray.mk #[61] ++ itoaB x.value:=by unfold bodyT; rw [e]; rfl
    have ho:okI x.value:=by rw [e] at hk; simp [content] at hk; exact okI_def hk.2
    have hs:=itoaB_size ho.1 ho.2
    simp -implicitDefEqProofs only [m_impl_agentText_Aj1,m_impl_agentText_Aj2,c6,c9,c12,c7,c8,c10,c11,cond_true,cond_false]
    rw [p_iDecimal ho,Option.bind_some,catS_ok (by simp only [ba_app_size,sz1]; omega),Option.bind_some,wrS_ok (by simp only [ba_app_size,sz1]; omega),Option.bind_some,iTail6 x hp hl _ (by simp only [ba_app_size,sz1]; omega),hb]
  · have c6:(x.kind==6)=false:=by rw [e]; rfl
    have c9:(x.kind==9)=false:=by rw [e]; rfl
    have c12:(x.kind==12)=false:=by rw [e]; rfl
    have c7:(x.kind==7)=true:=by rw [e]; rfl
    have c8:(x.kind==8)=false:=by rw [e]; rfl
    have c10:(x.kind==10)=false:=by rw [e]; rfl
    have c11:(x.kind==11)=false:=by rw [e]; rfl
    have hb:bodyT x=ByteArray.mk #[61] ++ opT x.value:=by unfold bodyT; rw [e]; rfl
    have ho:operB x.value=true:=by rw [e] at hk; simp [content] at hk; exact hk.2
    have hs:=opT_size ho
    simp -implicitDefEqProofs only [m_impl_agentText_Aj1,m_impl_agentText_Aj2,c6,c9,c12,c7,c8,c10,c11,cond_true,cond_false]
    rw [p_iOper ho,Option.bind_some,catS_ok (by simp only [ba_app_size,sz1]; omega),Option.bind_some,wrS_ok (by simp only [ba_app_size,sz1]; omega),Option.bind_some,iTail5 x hp hl _ (by simp only [ba_app_size,sz1]; omega),hb]
  · have c6:(x.kind==6)=false:=by rw [e]; rfl
    have c9:(x.kind==9)=false:=by rw [e]; rfl
    have c12:(x.kind==12)=false:=by rw [e]; rfl
    have c7:(x.kind==7)=false:=by rw [e]; rfl
    have c8:(x.kind==8)=true:=by rw [e]; rfl
    have c10:(x.kind==10)=false:=by rw [e]; rfl
    have c11:(x.kind==11)=false:=by rw [e]; rfl
    have hb:bodyT x=ByteArray.mk #[61] ++ opT x.value ++ ByteArray.mk #[44] ++ numsB x.data 44:=by unfold bodyT; rw [e]; rfl
    have hk':x.data.length=1∧operB x.value=true∧int32B (x.data.getD 0 0)=true:=by rw [e] at hk; simp [content] at hk; simpa [List.getD,and_assoc] using hk
    obtain ⟨h1,ho,h3⟩:=hk'
    obtain ⟨n,hn⟩ :∃n,x.data=[n]:=by
      cases hx:x.data with
      |nil=>rw [hx] at h1; simp at h1
      |cons a r=>
        rw [hx] at h1
        cases r with
        |nil=>exact ⟨a,rfl⟩
        |cons b r=>simp at h1
    have h3:int32B n=true:=by rw [hn] at h3; exact h3
    have hi:=okI_32 h3
    have hd :∀y∈x.data,okI y:=fun y hy=>by rw [hn] at hy; simp at hy; rw [hy]; exact hi
    have hdl:x.data.length≤1000:=by omega
    have hs:=opT_size ho
    have hs2:=numsB_size (c:=44) hd
    have hs3:=itoaB_size hi.1 hi.2
    have hnn:numsB x.data 44=itoaB n:=by rw [hn]; exact joinB_one _ _
    simp -implicitDefEqProofs only [m_impl_agentText_Aj1,m_impl_agentText_Aj2,c6,c9,c12,c7,c8,c10,c11,cond_true,cond_false]
    rw [show getI x.data 0=some n by rw [hn]; rfl,Option.bind_some,p_iOper ho,Option.bind_some,catS_ok (by simp only [ba_app_size,sz1]; omega),Option.bind_some,catS_ok (by simp only [ba_app_size,sz1]; omega),Option.bind_some,p_iDecimal hi,Option.bind_some,catS_ok (by simp only [ba_app_size,sz1]; omega),Option.bind_some,wrS_ok (by simp only [ba_app_size,sz1]; omega),Option.bind_some,iTail4 x hp hl _ (by simp only [ba_app_size,sz1]; omega),hb,hnn]
  · have c6:(x.kind==6)=false:=by rw [e]; rfl
    have c9:(x.kind==9)=false:=by rw [e]; rfl
    have c12:(x.kind==12)=false:=by rw [e]; rfl
    have c7:(x.kind==7)=false:=by rw [e]; rfl
    have c8:(x.kind==8)=false:=by rw [e]; rfl
    have c10:(x.kind==10)=true:=by rw [e]; rfl
    have c11:(x.kind==11)=false:=by rw [e]; rfl
    have hb:bodyT x=ByteArray.mk #[61] ++ numsB x.data 44:=by unfold bodyT; rw [e]; rfl
    have hd :∀y∈x.data,okI y:=by rw [e] at hk; simp only [content] at hk; simp at hk; exact fun y hy=>okI_def (hk.2 y hy)
    have hdl:x.data.length≤4:=by rw [e] at hk; simp [content] at hk; omega
    have hs2:=numsB_size (c:=44) hd
    have hdl:x.data.length≤1000:=by omega
    simp -implicitDefEqProofs only [m_impl_agentText_Aj1,m_impl_agentText_Aj2,c6,c9,c12,c7,c8,c10,c11,cond_true,cond_false]
    rw [p_iDecimals _ hd hdl,Option.bind_some,p_repl _ hd hdl,Option.bind_some,catS_ok (by simp only [ba_app_size,sz1]; omega),Option.bind_some,wrS_ok (by simp only [ba_app_size,sz1]; omega),Option.bind_some,iTail3 x hp hl _ (by simp only [ba_app_size,sz1]; omega),hb]
  · have c6:(x.kind==6)=false:=by rw [e]; rfl
    have c9:(x.kind==9)=false:=by rw [e]; rfl
    have c12:(x.kind==12)=false:=by rw [e]; rfl
    have c7:(x.kind==7)=false:=by rw [e]; rfl
    have c8:(x.kind==8)=false:=by rw [e]; rfl
    have c10:(x.kind==10)=false:=by rw [e]; rfl
    have c11:(x.kind==11)=true:=by rw [e]; rfl
    have hb:bodyT x=ByteArray.mk #[61] ++ numsB x.data 44:=by unfold bodyT; rw [e]; rfl
    have hd :∀y∈x.data,okI y:=by rw [e] at hk; simp only [content] at hk; simp at hk; exact fun y hy=>okI_def (hk.2 y hy)
    have hdl:x.data.length≤4:=by rw [e] at hk; simp [content] at hk; omega
    have hs2:=numsB_size (c:=44) hd
    have hdl:x.data.length≤1000:=by omega
    simp -implicitDefEqProofs only [m_impl_agentText_Aj1,m_impl_agentText_Aj2,c6,c9,c12,c7,c8,c10,c11,cond_true,cond_false]
    rw [p_iDecimals _ hd hdl,Option.bind_some,p_repl _ hd hdl,Option.bind_some,catS_ok (by simp only [ba_app_size,sz1]; omega),Option.bind_some,wrS_ok (by simp only [ba_app_size,sz1]; omega),Option.bind_some,iTail2 x hp hl _ (by simp only [ba_app_size,sz1]; omega),hb]
  · have c6:(x.kind==6)=false:=by simpa using e.1
    have c9:(x.kind==9)=false:=by simpa using e.2.1
    have c12:(x.kind==12)=false:=by simpa using e.2.2.1
    have c7:(x.kind==7)=false:=by simpa using e.2.2.2.1
    have c8:(x.kind==8)=false:=by simpa using e.2.2.2.2.1
    have c10:(x.kind==10)=false:=by simpa using e.2.2.2.2.2.1
    have c11:(x.kind==11)=false:=by simpa using e.2.2.2.2.2.2
    have hb:bodyT x=ByteArray.mk #[]:=by unfold bodyT; rw [if_neg (by omega),if_neg (by omega),if_neg (by omega),if_neg (by omega)]
    simp -implicitDefEqProofs only [m_impl_agentText_Aj1,m_impl_agentText_Aj2,c6,c9,c12,c7,c8,c10,c11,cond_true,cond_false]
    rw [iTail1 x hp hl _ (by omega),hb,app_e]
theorem p_iAgentT (x:DAgent) (hk:content x.kind x.value x.data=true) (hv:okI x.level) (hp :∀p∈x.ports,okP p) (hl:x.ports.length≤1000):m_impl_agentText x=some (agT x):=by
  have h1:=kind_name_size x.kind
  have h2:=itoaB_size hv.1 hv.2
  unfold m_impl_agentText agT headT
  rw [wrS_ok (by rw [sz0]; omega),Option.bind_some,e_app]
  cases hasLevel x.kind with
  |false=>
    rw [cond_false,iAj x hk hp hl _ (by omega),if_neg (by decide)]
  |true=>
    rw [cond_true,p_iDecimal hv,Option.bind_some,catS_ok (by rw [sz1]; omega),Option.bind_some,wrS_ok (by simp only [ba_app_size,sz1]; omega),Option.bind_some,iAj x hk hp hl _ (by simp only [ba_app_size,sz1]; omega),if_pos rfl]
end
section
open Go.RowKit
set_option maxHeartbeats 1000000 in
theorem eqPort_v (v u:Value) (x y:DPort) (w:World) {B B':Nat} (h:RdT portRd w B v x) (h':RdT portRd w B' u y) (hB:B≤w.heap.size) (hB':B'≤w.heap.size) :
    Calls Tryz.prog 108 #[v,u] w fun e w'=>e=.returned (.bool (decide (x=y)))∧Below w.heap.size w w':=by
  obtain ⟨cs,rfl,rfl⟩:=h
  obtain ⟨cs,rfl,rfl⟩:=h'
  have hb :∀o1 o2,Below w.heap.size w ((w.alloc o1).alloc o2):=fun o1 o2=>((Below.refl _ _).alloc (Nat.le_refl _) _).alloc (by simp) _
  by_cases e0:x.agent=y.agent
  · have f0:(x.agent != y.agent)=false:=by simp [e0]
    by_cases e1:x.slot=y.slot
    · have f1:(x.slot != y.slot)=false:=by simp [e1]
      have He:Hid (decide (x=y)=true):=decide_eq_true (by cases x; cases y; simp_all)
      clear e0 e1
      go_enter Tryz.func108,Tryz.ntmps108
      go_wp2_with fail
      go_ret
      exact ⟨by rw [He.out]; rfl,hb _ _⟩
    · have f1:(x.slot != y.slot)=true:=by simp [e1]
      have He:Hid (decide (x=y)=false):=decide_eq_false (by intro exy; exact e1 (by rw [exy]))
      clear e0 e1
      go_enter Tryz.func108,Tryz.ntmps108
      go_wp2_with fail
      go_ret
      exact ⟨by rw [He.out]; rfl,hb _ _⟩
  · have f0:(x.agent != y.agent)=true:=by simp [e0]
    have He:Hid (decide (x=y)=false):=decide_eq_false (by intro exy; exact e0 (by rw [exy]))
    clear e0
    go_enter Tryz.func108,Tryz.ntmps108
    go_wp2_with fail
    go_ret
    exact ⟨by rw [He.out]; rfl,hb _ _⟩
set_option maxHeartbeats 1000000 in
theorem eqPortS_v (v u:Value) (xs ys:List DPort) (w:World) {B B':Nat} (h:RdS portRd 2 w B v xs) (h':RdS portRd 2 w B' u ys) (hB:B≤w.heap.size) (hB':B'≤w.heap.size) :
    Calls Tryz.prog 78 #[v,u] w fun e w'=>e=.returned (.bool (eqL xs ys))∧Below w.heap.size w w':=by
  obtain ⟨A,n,c,rfl,hx,hnc,hcm⟩:=h
  obtain ⟨C,m,d,rfl,hy,hmd,hdm⟩:=h'
  unfold maxLen at hcm hdm
  have lx:=Lib.hid hx.len
  have ly:=Lib.hid hy.len
  have hr:=Below.refl w.heap.size w
  by_cases hnm:n=m
  · subst hnm
    go_enter Tryz.func78,Tryz.ntmps78
    go_wp2
    go_loopw [5] (fun i wr=>∃k:Nat,k≤n∧i=.int .i64 k∧Hid (xs.take k=ys.take k)∧Below w.heap.size w wr) (fun i _=>n - (intOf i).toNat)
    case atStart=>exact ⟨0,by omega,rfl,rfl,hr⟩
    case round=>
      obtain ⟨k,hk,rfl,ht,hq⟩:=hrel
      by_cases hlt:k < n
      · have hx':=hx.below portRd_ok (hq.mono hB)
        have hy':=hy.below portRd_ok (hq.mono hB')
        obtain ⟨b,off,x,rfl,hb,hxk,hc0,hc1⟩:=hx'.port hlt
        obtain ⟨b',off',y,rfl,hb',hyk,hc0',hc1'⟩:=hy'.port hlt
        have Hxk:=Lib.hid hxk
        have Hyk:=Lib.hid hyk
        clear hxk hyk hx' hy'
        have hzB:B≤wr.drew.heap.size:=Nat.le_trans hB hq.size
        have hzB':B'≤wr.drew.heap.size:=Nat.le_trans hB' hq.size
        by_cases hxy:x=y
        · have hf:decide (x=y)=true:=decide_eq_true hxy
          have Hxy:=Lib.hid hxy
          clear hxy
          go_wp2_with fail
          go_region_with (go_at_call 108; refine (eqPort_v _ _ x y _ (B:=0) (B':=0) ⟨_,rfl,rfl⟩ ⟨_,rfl,rfl⟩ (Nat.zero_le _) (Nat.zero_le _)).mono ?_; rintro e w1 ⟨rfl,hq1⟩)
          all_goals
            go_wp2_with fail
            go_roundw
            case rel=>exact ⟨k+1,by omega,by go_num,eqL_step Hxk.out Hyk.out ht.out Hxy.out,hq.drew.trans (hq1.mono hq.size)⟩
            case measure=>simp [intOf]; omega
        · have hf:decide (x=y)=false:=decide_eq_false hxy
          have Hno:=Lib.hid (eqL_no Hxk.out Hyk.out hxy)
          clear hxy
          go_wp2_with fail
          go_region_with (go_at_call 108; refine (eqPort_v _ _ x y _ (B:=0) (B':=0) ⟨_,rfl,rfl⟩ ⟨_,rfl,rfl⟩ (Nat.zero_le _) (Nat.zero_le _)).mono ?_; rintro e w1 ⟨rfl,hq1⟩)
          all_goals
            go_wp2_with fail
            go_ret
            exact ⟨by rw [Hno.out]; rfl,hq.drew.trans (hq1.mono hq.size)⟩
      · have Hyes:=Lib.hid (eqL_yes (k:=k) ht.out (by have:=lx.out; omega) (by have:=ly.out; omega))
        go_wp2
        go_ret
        exact ⟨by rw [Hyes.out]; rfl,hq⟩
  · have Hno:=Lib.hid (eqL_len (xs:=xs) (ys:=ys) (by have:=lx.out; have:=ly.out; omega))
    have hf:((n:Int) != (m:Int))=true:=by simp; omega
    go_enter Tryz.func78,Tryz.ntmps78
    go_wp2
    go_ret
    exact ⟨by rw [Hno.out]; rfl,hr⟩
end
end Go.Proofs.YtkfmlehhbanopaaGreatDoor
