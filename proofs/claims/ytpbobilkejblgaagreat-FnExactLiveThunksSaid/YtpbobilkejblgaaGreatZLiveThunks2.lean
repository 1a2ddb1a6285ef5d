/- Lemmas of the proof of LiveThunks, part 2. No condition. -/
import Derived.Test.YtpbobilkejblgaaGreatZLiveThunks1
namespace Go.Proofs.YtpbobilkejblgaaGreat
set_option linter.unusedVariables false
set_option linter.unusedSimpArgs false
section
open Go.RowKit
set_option maxRecDepth 100000
def m_slices_IndexFunc_int64_int64_A1:Option Int:=
  some (-1)
def m_slices_IndexFunc_int64_int64_B1 (d0:List Int) (d1:Int→Option Bool) (rec1:Int→Option Int) (K1:Option Int) (i2:Int):Option Int:=
  (bif (decide (i2 < (d0.length:Int))) then ((getI d0 i2).bind fun x5=>((d1 x5).bind fun y14=>(bif y14 then some i2 else (rec1 (i2+1))))) else (K1))
def m_slices_IndexFunc_int64_int64_L1 (d0:List Int) (d1:Int→Option Bool) (K1:Option Int):Nat→Int→Option Int
  |0,_=>none
  |g+1,i2=>m_slices_IndexFunc_int64_int64_B1 d0 d1 (m_slices_IndexFunc_int64_int64_L1 d0 d1 K1 g) K1 i2
def m_slices_IndexFunc_int64_int64 (d0:List Int) (d1:Int→Option Bool):Option Int:=
  (m_slices_IndexFunc_int64_int64_L1 d0 d1 m_slices_IndexFunc_int64_int64_A1 (d0.length+1) 0)
set_option maxHeartbeats 2000000 in
theorem c_m_slices_IndexFunc_int64_int64 (d0:List Int) (d1:Int→Option Bool) (r:Int) (hm:m_slices_IndexFunc_int64_int64 d0 d1=some r) (v0:Value) (gf1:FuncId) (caps1:Array Value) (w:World) (hv0:Sl intRd 1 w v0 d0) (hgo1:isGo Tryz.prog gf1=true) (hf1 :∀(x0:Int) (b:Bool),d1 x0=some b→∀w1,Below w.heap.size w w1→Calls Tryz.prog gf1 (#[.int .i64 x0] ++ caps1) w1 fun e w2=>e=.returned (.bool b)∧Below w1.heap.size w1 w2) :
    Calls Tryz.prog 213 #[v0,.func (.func gf1) #[] caps1] w fun e w'=>e=.returned (.int .i64 r)∧Below w.heap.size w w':=by
  obtain ⟨Aa0,na0,ca0,rfl,ha0,ra0⟩:=hv0
  have ea0:=ha0.len; subst ea0
  have qa0:=len_le ra0
  have T:=Below.refl w.heap.size w
  unfold m_slices_IndexFunc_int64_int64 at hm
  refine enter 19 Tryz.func213 rfl rfl rfl ?_
  intro f hf
  have s0:f 0=.slice Aa0 d0.length ca0:=hf 0 _ rfl
  have s1:f 1=.func (.func gf1) #[] caps1:=hf 1 _ rfl
  refine wp_seq<|wp_rs rfl<|RQ.y rfl (Y.assign (v:=.int .i64 0) rfl)<|RQ.nil<|then_n<|wp_seq<|wp_seq<|wp_rs rfl<|RQ.y rfl (Y.move (v:=.slice Aa0 d0.length ca0) s0)<|RQ.y rfl (Y.len (by kernel_rfl) rfl)<|RQ.y rfl (Y.move (v:=.int .i64 0) rfl)<|RQ.nil<|then_n<|wp_block ?_
  obtain ⟨K1,hK1,hm⟩ :∃K,K=m_slices_IndexFunc_int64_int64_A1∧m_slices_IndexFunc_int64_int64_L1 d0 d1 K (d0.length+1) 0=some r:=⟨_,rfl,hm⟩
  refine wp_loopX (fun g f w'=>∃(i2:Int),f 0=.slice Aa0 d0.length ca0∧f 1=.func (.func gf1) #[] caps1∧f 7=.int .i64 (d0.length:Int)∧f 8=.int .i64 i2∧0≤i2∧Below w.heap.size w w'∧m_slices_IndexFunc_int64_int64_L1 d0 d1 K1 g i2=some r) 0 (fun f w'=>Below w.heap.size w w'∧m_slices_IndexFunc_int64_int64_A1  = some r) (d0.length+1) ⟨0,s0,s1,rfl,rfl,(by omega),T,hm⟩ ?_ ?_
  ·rintro f w1 ⟨T,hm⟩
   unfold m_slices_IndexFunc_int64_int64_A1 at hm
   refine blk_hit (then_n ?_)
   refine wp_seq<|wp_rs rfl<|RQ.y rfl (Y.assign (v:=.int .i64 (-1)) rfl)<|RQ.nil<|then_n<|wp_ret ?_
   obtain rfl:=sj hm
   exact (ret1 rfl rfl rfl ⟨rfl,T⟩)
  rintro g f w3 ⟨i2,s0_1,s1_1,s7_1,s8_1,nn8_1,T,hm⟩
  rcases g with _|g
  ·simp only [m_slices_IndexFunc_int64_int64_L1] at hm; cases hm
  obtain ⟨rec1,hrec1,hm⟩ :∃z,z=m_slices_IndexFunc_int64_int64_L1 d0 d1 K1 g∧m_slices_IndexFunc_int64_int64_B1 d0 d1 z K1 i2=some r:=⟨_,rfl,hm⟩
  unfold m_slices_IndexFunc_int64_int64_B1 at hm
  refine wp_seq<|wp_rs rfl<|RQ.y rfl (Y.binI (v:=.bool (decide (i2 < (d0.length:Int)))) s8_1 s7_1 rfl)<|RQ.nil<|then_n<|wp_seq ?_
  rcases bcases (decide (i2 < (d0.length:Int))) with c4|c4
  ·replace hm:=cF c4 hm
   have pc4:=of_decide_eq_false c4
   refine cond_f rfl (vb rfl c4)<|wp_exit ?_
   exact (then_x (then_x (hit_x ⟨_,rfl,⟨T,(by rw [hK1] at hm; exact hm)⟩⟩)))
  replace hm:=cT c4 hm
  have pc4:=of_decide_eq_true c4
  refine cond_t rfl (vb rfl c4)<|wp_skip<|then_n<|wp_seq<|wp_block<|wp_seq<|wp_rs rfl<|RQ.y rfl (Y.move (v:=.int .i64 i2) s8_1)<|RQ.y rfl (Y.assign (v:=.int .i64 i2) rfl)<|RQ.nil<|then_n<|wp_seq<|wp_rb rfl<|RQ.y rfl (Y.move (v:=.func (.func gf1) #[] caps1) s1_1)<|RQ.y rfl (Y.move (v:=.slice Aa0 d0.length ca0) s0_1)<|RQ.y rfl (Y.move (v:=.int .i64 i2) rfl) ?_
  obtain ⟨x5,hx8,hm⟩:=bnd hm
  obtain ⟨k6,hk9,hl10,hx8⟩:=getI_some hx8
  obtain ⟨b12,o13,rfl,hbb12⟩:=ha0.addr (by omega)
  obtain ⟨cs7,hRcs7,hc11⟩:=ha0.el hx8
  have hScs7:=hRcs7
  obtain rfl:=hRcs7
  refine RQ.y rfl (Y.indexAddr (m:=k6) (sz:=1) rfl rfl hk9 hl10 (by kernel_rfl))<|RQ.y rfl (Y.load (v:=.int .i64 x5) rfl (by kernel_rfl) (beC (cellT T (hc11 0 _ rfl)))) ?_
  obtain ⟨y14,e15,hm⟩:=bnd hm
  refine RQ.callV rfl rfl (am1 rfl) hgo1 (v:=.bool y14) (bel (K:=fun _=>True) fun w' hb'=>hf1 x5 y14 e15 w' (Tt T hb'))<|RQ.nil ?_
  intro w16 hb17
  have szw16:=hb17.size
  have T:=Tt T hb17
  refine then_n ?_
  rcases bcases y14 with c18|c18
  ·replace hm:=cF c18 hm
   refine cond_f rfl (vb rfl c18)<|wp_skip ?_
   refine blk_n (then_n ?_)
   refine wp_rs rfl<|RQ.y rfl (Y.binI s8_1 rfl (binI_add (m:=i2) (by omega)))<|RQ.y rfl (Y.move (v:=.int .i64 (i2+1)) rfl)<|RQ.nil ?_
   exact (then_n ⟨g,_,Nat.lt_succ_self _,rfl,⟨(i2+1),s0_1,s1_1,s7_1,rfl,(by omega),T,(by rw [← hrec1]; exact hm)⟩⟩)
  replace hm:=cT c18 hm
  refine cond_t rfl (vb rfl c18)<|wp_seq<|wp_rs rfl<|RQ.y rfl (Y.move (v:=.int .i64 i2) rfl)<|RQ.y rfl (Y.assign (v:=.int .i64 i2) rfl)<|RQ.nil<|then_n<|wp_ret ?_
  obtain rfl:=sj hm
  exact (blk_r (then_r (then_r (hit_r (blk_r (then_r (ret1 rfl rfl rfl ⟨rfl,T⟩)))))))
def m_slices_ContainsFunc_int64_int64 (d0:List Int) (d1:Int→Option Bool):Option Bool:=
  ((m_slices_IndexFunc_int64_int64 d0 d1).bind fun y1=>some (decide (y1 ≥ 0)))
set_option maxHeartbeats 2000000 in
theorem c_m_slices_ContainsFunc_int64_int64 (d0:List Int) (d1:Int→Option Bool) (r:Bool) (hm:m_slices_ContainsFunc_int64_int64 d0 d1=some r) (v0:Value) (gf1:FuncId) (caps1:Array Value) (w:World) (hv0:Sl intRd 1 w v0 d0) (hgo1:isGo Tryz.prog gf1=true) (hf1 :∀(x0:Int) (b:Bool),d1 x0=some b→∀w1,Below w.heap.size w w1→Calls Tryz.prog gf1 (#[.int .i64 x0] ++ caps1) w1 fun e w2=>e=.returned (.bool b)∧Below w1.heap.size w1 w2) :
    Calls Tryz.prog 166 #[v0,.func (.func gf1) #[] caps1] w fun e w'=>e=.returned (.bool r)∧Below w.heap.size w w':=by
  obtain ⟨Aa0,na0,ca0,rfl,ha0,ra0⟩:=hv0
  have ea0:=ha0.len; subst ea0
  have qa0:=len_le ra0
  have T:=Below.refl w.heap.size w
  unfold m_slices_ContainsFunc_int64_int64 at hm
  refine enter 9 Tryz.func166 rfl rfl rfl ?_
  intro f hf
  have s0:f 0=.slice Aa0 d0.length ca0:=hf 0 _ rfl
  have s1:f 1=.func (.func gf1) #[] caps1:=hf 1 _ rfl
  refine wp_seq<|wp_rs rfl<|RQ.y rfl (Y.assign (v:=.bool false) rfl)<|RQ.nil<|then_n<|wp_seq<|wp_rb rfl<|RQ.y rfl (Y.move (v:=.slice Aa0 d0.length ca0) s0)<|RQ.y rfl (Y.move (v:=.func (.func gf1) #[] caps1) s1) ?_
  obtain ⟨y1,e2,hm⟩:=bnd hm
  refine RQ.call rfl (am2 rfl rfl) (by kernel_rfl) (v:=.int .i64 y1) (bel (K:=fun _=>True) fun w' hb'=>(c_m_slices_IndexFunc_int64_int64 d0 d1 _ e2 _ _ _ w' (slArg intRd_ok ha0 ra0 (Tt T hb')) hgo1 (fun x0 b hx w1 hb1=>hf1 x0 b hx w1 (Tt (Tt T hb') hb1))))<|RQ.y rfl (Y.binI (v:=.bool (decide (y1 ≥ 0))) rfl rfl rfl)<|RQ.y rfl (Y.assign (v:=.bool (decide (y1 ≥ 0))) rfl)<|RQ.nil ?_
  intro w3 hb4
  have szw3:=hb4.size
  have T:=Tt T hb4
  refine then_n<|wp_ret ?_
  obtain rfl:=sj hm
  exact (ret1 rfl rfl rfl ⟨rfl,T⟩)
end
section
open Go.RowKit
theorem app_impl_Core:AppT Tryz.prog 73 78 (.agg #[.int .i64 0,.int .i64 0,.slice none 0 0,.slice none 0 0]) 4 64:=⟨by kernel_rfl,by kernel_rfl,rfl,by decide⟩
end
section
open Go.RowKit
theorem setI_eq {α:Type} {xs:List α} {i:Int} {k:Nat} {x:α} (h:i=(k:Int)):setI xs i x=xs.set k x:=by subst h; rfl
/-- Only the rows of v1 and v2 may have turned, of what was there. -/
structure KeepV (v1 v2:Value) (w w':World):Prop where
  size:w.heap.size≤w'.heap.size
  block :∀b,b < w.heap.size→v1.ownBlock ≠ some b→v2.ownBlock ≠ some b→w'.heap[b]? = w.heap[b]?
section
variable {v1 v2 v : Value} {w w' w2 : World} {b : Nat}
theorem KeepV.refl (v1 v2:Value) (w:World):KeepV v1 v2 w w:=⟨Nat.le_refl _,fun _ _ _ _=>rfl⟩
theorem KeepV.below (K:KeepV v1 v2 w w') (hb:Below w'.heap.size w' w2):KeepV v1 v2 w w2:=⟨Nat.le_trans K.size hb.size,fun b h1 h2 h3=>(hb.block b (Nat.lt_of_lt_of_le h1 K.size)).trans (K.block b h1 h2 h3)⟩
theorem KeepV.only1 (K:KeepV v1 v2 w w') (ho:Only [b] w' w2) (e:v1.ownBlock=some b):KeepV v1 v2 w w2:=⟨Nat.le_trans K.size (Nat.le_of_eq ho.size.symm),fun k h1 h2 h3=>(ho.block k (by intro hin; simp at hin; subst hin; exact h2 e)).trans (K.block k h1 h2 h3)⟩
theorem Blk.keepV {t:TypeId} {cs:Array Value} (h:Blk w b t cs) (K:KeepV v1 v2 w w') (h1:v1.ownBlock ≠ some b) (h2:v2.ownBlock ≠ some b):Blk w' b t cs:=(K.block b h.lt h1 h2).trans h
end
section
variable {α : Type} {enc : α → List Value} {O : Ow α} {sz lo : Nat} {v v1 v2 : Value} {xs : List α} {w w' : World} {e : TypeId} {bs : List Nat}
theorem OwF.lenEq {A:Option Addr} {n c:Nat} (h:OwF e enc sz w lo (.slice A n c) xs):n=xs.length:=by
  obtain ⟨A',c',e1⟩:=h.form
  injection e1
theorem OwF.keepV (h:OwF e enc sz w lo v xs) (K:KeepV v1 v2 w w') (d1:Dj v v1) (d2:Dj v v2):OwF e enc sz w' lo v xs:=by
  refine ⟨h.1,?_⟩
  rcases h.2 with h2|⟨g,cap,cur,hv,hg,hh,r⟩
  · exact .inl h2
  · have hb:v.ownBlock=some g:=by rw [hv]; rfl
    exact .inr ⟨g,cap,cur,hv,hg,(K.block g (h.lt g hb).2 (d1 g hb) (d2 g hb)).trans hh,r⟩
theorem OwN.keepV (ok:OwOk O sz) (h:OwN e O sz w lo v xs bs) (K:KeepV v1 v2 w w') (d1:Ap bs (fb v1)) (d2:Ap bs (fb v2)):OwN e O sz w' lo v xs bs:=
  h.keep ok (fun b hb=>K.block b (h.hi b hb) (fun e=>d1 b hb (mem_fb.2 e)) (fun e=>d2 b hb (mem_fb.2 e))) K.size
end
theorem OwM.keepV {κ β:Type} {P:Program} {k:TypeId} {lit:κ→Lit} {enc:β→Value} {lo b:Nat} {m:MapM κ β} {v1 v2:Value} {w w':World} (h:OwM P k lit enc w lo b m) (K:KeepV v1 v2 w w') (h1:v1.ownBlock ≠ some b) (h2:v2.ownBlock ≠ some b):OwM P k lit enc w' lo b m:=h.keep (K.block b h.lt h1 h2)
end
section
open Go.RowKit
theorem Parts.rep {α:Type} {O:Ow α} {w:World} {zc:List Value} {x0:α} (hO:O w zc x0 []) :∀n:Nat,Parts O w ((List.replicate n ()).flatMap fun _=>zc) (List.replicate n x0) []
  |0=>⟨rfl,rfl⟩
  |n+1=>⟨zc,(List.replicate n ()).flatMap fun _=>zc,[],[],by rw [List.replicate_succ,List.flatMap_cons],hO,rfl,Parts.rep hO n⟩
section
variable {P : Program} {ops : Array Oper} {f : Nat → Value} {rest : List Oper} {Q : (Nat → Value) → World → Prop} {w : World} {d : Option Tmp} {ty : TypeId} {pos : String} {af : Array Edge} {g : Option (Nat × Bool)} {x y : Operand} {t e : TypeId} {z : Value} {sz bb : Nat}
theorem RL.makeN {α:Type} {O:Ow α} {x0:α} {n:Nat} (A:AppT P t e z sz bb) (hp:0 < sz) (hO :∀w,O w z.cells.toList x0 []) (hg:wantF f ops ⟨d,.makeSlice t x y,ty,pos,af,g⟩=true)
    (hx:ev f x=.int .i64 n) (hy:ev f y=.int .i64 n) (hn:n≤4294967296)
    (h :∀w1,OwN e O sz w1 w.heap.size (.slice (some ⟨w.heap.size,0,none⟩) n n) (List.replicate n x0) [w.heap.size]→Below w.heap.size w w1→w1.heap.size=w.heap.size+1→RL P ops Q rest (upo f d (.slice (some ⟨w.heap.size,0,none⟩) n n)) w1):RL P ops Q (⟨d,.makeSlice t x y,ty,pos,af,g⟩ :: rest) f w:=by
  refine .inl ⟨hg,?_⟩
  have hb:bb * n≤281474976710656:=Nat.le_trans (Nat.mul_le_mul A.bb hn) (by decide)
  have hr:(execOp (ev f) ⟨d,.makeSlice t x y,ty,pos,af,g⟩).run P w=.ok (.value (.slice (some ⟨w.heap.size,0,none⟩) n n)) (w.alloc (.cells (madeCells z.cells (n * sz)) e)):=by
    simp [execOp,hx,hy,run_make_sz t e A.und A.info n hb hn w]
  rw [hr]
  have hB:=Blk.new w e (madeCells z.cells (n * sz))
  have hF:=flat_replicate (enc:=fun _:Unit=>z.cells.toList) (z0:=()) (z:=z) rfl A.zs hp n
  refine h _ ?_ (below_alloc _ _) (World.size_alloc _ _)
  refine ⟨(List.replicate n ()).flatMap fun _=>z.cells.toList,[],⟨?_,.inr ⟨w.heap.size,n,_,by simp,Nat.le_refl _,hB,by simp,by unfold maxLen; omega,madeCells_size _ _,?_⟩⟩,Parts.rep (hO _) n,List.nodup_nil,fun b hb=>by simp at hb,fun b hb=>?_,fun b hb=>?_⟩
  · rw [← hF]; simp [madeCells]
  · rw [← hF,List.take_of_length_le (by simp [madeCells])]
  · simp [Value.ownBlock] at hb; subst hb; simp
  · simp at hb; subst hb; rw [World.size_alloc]; omega
theorem RL.storeNW {α:Type} {O:Ow α} {v:Value} {xs:List α} {lo k n c b:Nat} {a a':α} {bs l fp:List Nat} (ok:OwOk O sz) (one:OneC O) (hg:wantF f ops ⟨d,.store t x y,ty,pos,af,g⟩=true) (hx:ev f x=.pointer (some ⟨b,0+k * sz,none⟩)) (hy:ev f y=v)
    (hv:OwN e O sz w lo (.slice (some ⟨b,0,none⟩) n c) xs bs) (hk:xs[k]? = some a) (hO:O w v.cells.toList a' l) (nd:l.Nodup) (sub :∀q∈l,q∈fp) (D:Ap bs fp) (hf :∀q∈fp,lo≤q∧q < w.heap.size) (hs:(P.info? t).map (·.size)=some sz)
    (h :∀w1,OwN e O sz w1 lo (.slice (some ⟨b,0,none⟩) n c) (xs.set k a') (bs ++ fp)→Only [b] w w1→RL P ops Q rest (upo f d undef) w1):RL P ops Q (⟨d,.store t x y,ty,pos,af,g⟩ :: rest) f w:=by
  refine .inl ⟨hg,?_⟩
  cases hi:P.info? t with
  |none=>rw [hi] at hs; cases hs
  |some inf=>
    rw [hi] at hs
    simp only [Option.map_some,Option.some.injEq] at hs
    obtain ⟨cells,ib,q1,q2,q3,q4,q5,q6⟩:=hv
    rcases q1.2 with ⟨h0,hl0⟩|⟨b',cap,cur,hv,hlo,hh,m1,m2,m3,m4⟩
    · cases h0
    · injection hv with e1 e2 e3
      injection e1 with e1
      injection e1 with e1
      subst e1 e2 e3
      obtain ⟨c1,cs,c2,i1,b1,i2,f1,f2,f3,f4,f5⟩:=q2.split ok hk
      have hkl:=lt_of_some hk
      have hcl:=ok.len f3
      have hlen:v.cells.toList.length=sz:=ok.len hO
      have hcs:cells.length=xs.length * sz:=q1.1
      have hkc:k * sz+sz≤xs.length * sz:=by
        have:=Nat.mul_le_mul_right sz (show k+1≤xs.length from hkl)
        rw [Nat.add_mul] at this; omega
      have hcc:xs.length * sz≤cur.size:=by rw [m3]; exact Nat.mul_le_mul_right _ m1
      have hst:=run_storeCells_at (P:=P) b (k * sz) e v.cells.toList 0 cur w hh (by rw [hlen]; omega) (fun u hu=>one hO u hu)
      have hr:(execOp (ev f) ⟨d,.store t x y,ty,pos,af,g⟩).run P w=.ok .skip (w.setRow b (cur.toList.take (k * sz) ++ v.cells.toList ++ cur.toList.drop (k * sz+v.cells.toList.length)).toArray):=by
        simp only [Nat.add_zero] at hst
        have hsz:v.cells.size=inf.size:=by rw [hs,← hlen]; simp
        simp [execOp,hx,hy,Instr.storeAt,Instr.sureAddr,storeVar,sizeOf,typeInfo,hi,hsz,hst]
      rw [hr]
      have hb0:=q5 b rfl
      have hon:=setRow_only w b (cur.toList.take (k * sz) ++ v.cells.toList ++ cur.toList.drop (k * sz+v.cells.toList.length)).toArray
      have hbl:b ∉ l:=fun hin=>D b hb0.1 (sub b hin)
      rw [f4] at q3 q4
      have hi1 :∀q∈i1,q∈bs:=fun q hq=>q4 q (by simp [hq])
      have hi2 :∀q∈i2,q∈bs:=fun q hq=>q4 q (by simp [hq])
      obtain ⟨n1,n2,n3⟩:=List.nodup_append.1 q3
      obtain ⟨n4,n5,n6⟩:=List.nodup_append.1 n2
      have hbb:b ∉ i1∧b ∉ i2:=by
        have:=hb0.2
        rw [f4] at this
        simp at this
        exact ⟨this.1,this.2.2⟩
      refine h _ ⟨c1 ++ v.cells.toList ++ c2,i1 ++ (l ++ i2),⟨?_,.inr ⟨b,c,_,by rw [List.length_set],hlo,setRow_heap w b cur _ e _ hh,by rw [List.length_set]; exact m1,m2,?_,?_⟩⟩,?_,?_,?_,?_,?_⟩ hon
      · rw [f1] at hcs
        simp only [List.length_append,List.length_set] at hcs ⊢
        omega
      · simp only [List.size_toArray,List.length_append,List.length_take,List.length_drop,Array.length_toList,hlen]
        rw [← m3]; omega
      · rw [List.length_set]
        have hsp:=splice_take (A:=cur.toList) (E:=v.cells.toList) (p:=k * sz) (L:=xs.length * sz) (by rw [hlen]; omega) (by simpa using hcc)
        rw [hlen] at hsp ⊢
        show List.take (xs.length * sz) (cur.toList.take (k * sz) ++ v.cells.toList ++ cur.toList.drop (k * sz+sz))=_
        rw [hsp,m4,f1]
        have e5:(c1 ++ cs ++ c2).take (k * sz)=c1:=by
          rw [List.append_assoc,← f2,List.take_left]
        have e6:(c1 ++ cs ++ c2).drop (k * sz+sz)=c2:=by
          rw [← f2,← hcl,← List.length_append,List.drop_left]
        rw [e5,e6]
      · refine f5 _ _ _ _ (fun b' hb'=>hon.block b' (by
          intro hin; simp at hin; subst hin
          rcases List.mem_append.1 hb' with h|h
          · exact hbb.1 h
          · exact hbb.2 h)) (ok.keep (fun b' hb'=>hon.block b' (by intro hin; simp at hin; subst hin; exact hbl hb')) hO)
      · refine List.nodup_append.2 ⟨n1,List.nodup_append.2 ⟨nd,n5,fun a ha b hb e=>?_⟩,fun a ha b hb e=>?_⟩
        · subst e; exact D a (hi2 a hb) (sub a ha)
        · subst e
          rcases List.mem_append.1 hb with h|h
          · exact D a (hi1 a ha) (sub a h)
          · exact n3 a ha a (by simp [h]) rfl
      · intro q hq
        rcases List.mem_append.1 hq with h|h
        · exact List.mem_append.2 (.inl (hi1 q h))
        · rcases List.mem_append.1 h with h|h
          · exact List.mem_append.2 (.inr (sub q h))
          · exact List.mem_append.2 (.inl (hi2 q h))
      · intro q hq
        have hqb:q=b:=by simp [Value.ownBlock] at hq; exact hq.symm
        subst hqb
        refine ⟨List.mem_append.2 (.inl hb0.1),fun hin=>?_⟩
        rcases List.mem_append.1 hin with h|h
        · exact hbb.1 h
        · rcases List.mem_append.1 h with h|h
          · exact hbl h
          · exact hbb.2 h
      · intro q hq
        rw [hon.size]
        rcases List.mem_append.1 hq with h|h
        · exact q6 q h
        · exact hf q h
end
end
section
open Go.RowKit
set_option maxRecDepth 100000
def m_slices_Equal_int64_int64_A1:Option Bool:=
  some true
def m_slices_Equal_int64_int64_B1 (d0:List Int) (d1:List Int) (rec1:Int→Option Bool) (K1:Option Bool) (i3:Int):Option Bool:=
  (bif (decide (i3 < (d0.length:Int))) then ((getI d0 i3).bind fun x6=>((getI d1 i3).bind fun x15=>(bif (x6 != x15) then some false else (rec1 (i3+1))))) else (K1))
def m_slices_Equal_int64_int64_L1 (d0:List Int) (d1:List Int) (K1:Option Bool):Nat→Int→Option Bool
  |0,_=>none
  |g+1,i3=>m_slices_Equal_int64_int64_B1 d0 d1 (m_slices_Equal_int64_int64_L1 d0 d1 K1 g) K1 i3
def m_slices_Equal_int64_int64 (d0:List Int) (d1:List Int):Option Bool:=
  (bif ((d0.length:Int) != (d1.length:Int)) then some false else (m_slices_Equal_int64_int64_L1 d0 d1 m_slices_Equal_int64_int64_A1 (d0.length+1) 0))
set_option maxHeartbeats 2000000 in
theorem c_m_slices_Equal_int64_int64 (d0:List Int) (d1:List Int) (r:Bool) (hm:m_slices_Equal_int64_int64 d0 d1=some r) (v0:Value) (v1:Value) (w:World) (hv0:Sl intRd 1 w v0 d0) (hv1:Sl intRd 1 w v1 d1) :
    Calls Tryz.prog 254 #[v0,v1] w fun e w'=>e=.returned (.bool r)∧Below w.heap.size w w':=by
  obtain ⟨Aa0,na0,ca0,rfl,ha0,ra0⟩:=hv0
  have ea0:=ha0.len; subst ea0
  have qa0:=len_le ra0
  obtain ⟨Aa1,na1,ca1,rfl,ha1,ra1⟩:=hv1
  have ea1:=ha1.len; subst ea1
  have qa1:=len_le ra1
  have T:=Below.refl w.heap.size w
  unfold m_slices_Equal_int64_int64 at hm
  refine enter 26 Tryz.func254 rfl rfl rfl ?_
  intro f hf
  have s0:f 0=.slice Aa0 d0.length ca0:=hf 0 _ rfl
  have s1:f 1=.slice Aa1 d1.length ca1:=hf 1 _ rfl
  refine wp_seq<|wp_rs rfl<|RQ.y rfl (Y.assign (v:=.bool false) rfl)<|RQ.nil<|then_n<|wp_seq<|wp_seq<|wp_rs rfl<|RQ.y rfl (Y.move (v:=.slice Aa0 d0.length ca0) s0)<|RQ.y rfl (Y.len (by kernel_rfl) rfl)<|RQ.y rfl (Y.move (v:=.slice Aa1 d1.length ca1) s1)<|RQ.y rfl (Y.len (by kernel_rfl) rfl)<|RQ.y rfl (Y.binI (v:=.bool ((d0.length:Int) != (d1.length:Int))) rfl rfl rfl)<|RQ.nil<|then_n ?_
  rcases bcases ((d0.length:Int) != (d1.length:Int)) with c1|c1
  ·replace hm:=cF c1 hm
   refine cond_f rfl (vb rfl c1)<|wp_skip<|then_n<|wp_seq<|wp_seq<|wp_rs rfl<|RQ.y rfl (Y.move (v:=.slice Aa0 d0.length ca0) s0)<|RQ.y rfl (Y.len (by kernel_rfl) rfl)<|RQ.y rfl (Y.move (v:=.int .i64 0) rfl)<|RQ.nil<|then_n<|wp_block ?_
   obtain ⟨K1,hK1,hm⟩ :∃K,K=m_slices_Equal_int64_int64_A1∧m_slices_Equal_int64_int64_L1 d0 d1 K (d0.length+1) 0=some r:=⟨_,rfl,hm⟩
   refine wp_loopX (fun g f w'=>∃(i3:Int),f 0=.slice Aa0 d0.length ca0∧f 1=.slice Aa1 d1.length ca1∧f 12=.int .i64 (d0.length:Int)∧f 13=.int .i64 i3∧0≤i3∧Below w.heap.size w w'∧m_slices_Equal_int64_int64_L1 d0 d1 K1 g i3=some r) 0 (fun f w'=>Below w.heap.size w w'∧m_slices_Equal_int64_int64_A1  = some r) (d0.length+1) ⟨0,s0,s1,rfl,rfl,(by omega),T,hm⟩ ?_ ?_
   ·rintro f w2 ⟨T,hm⟩
    unfold m_slices_Equal_int64_int64_A1 at hm
    refine blk_hit (then_n ?_)
    refine wp_seq<|wp_rs rfl<|RQ.y rfl (Y.assign (v:=.bool true) rfl)<|RQ.nil<|then_n<|wp_ret ?_
    obtain rfl:=sj hm
    exact (ret1 rfl rfl rfl ⟨rfl,T⟩)
   rintro g f w4 ⟨i3,s0_1,s1_1,s12_1,s13_1,nn13_1,T,hm⟩
   rcases g with _|g
   ·simp only [m_slices_Equal_int64_int64_L1] at hm; cases hm
   obtain ⟨rec1,hrec1,hm⟩ :∃z,z=m_slices_Equal_int64_int64_L1 d0 d1 K1 g∧m_slices_Equal_int64_int64_B1 d0 d1 z K1 i3=some r:=⟨_,rfl,hm⟩
   unfold m_slices_Equal_int64_int64_B1 at hm
   refine wp_seq<|wp_rs rfl<|RQ.y rfl (Y.binI (v:=.bool (decide (i3 < (d0.length:Int)))) s13_1 s12_1 rfl)<|RQ.nil<|then_n<|wp_seq ?_
   rcases bcases (decide (i3 < (d0.length:Int))) with c5|c5
   ·replace hm:=cF c5 hm
    have pc5:=of_decide_eq_false c5
    refine cond_f rfl (vb rfl c5)<|wp_exit ?_
    exact (then_x (then_x (hit_x ⟨_,rfl,⟨T,(by rw [hK1] at hm; exact hm)⟩⟩)))
   replace hm:=cT c5 hm
   have pc5:=of_decide_eq_true c5
   refine cond_t rfl (vb rfl c5)<|wp_skip<|then_n<|wp_seq<|wp_block<|wp_seq<|wp_rs rfl<|RQ.y rfl (Y.move (v:=.int .i64 i3) s13_1)<|RQ.y rfl (Y.assign (v:=.int .i64 i3) rfl)<|RQ.nil<|then_n<|wp_seq<|wp_rbd (by kernel_rfl) (by kernel_rfl)<|RQ.y rfl (Y.move (v:=.slice Aa0 d0.length ca0) s0_1)<|RQ.y rfl (Y.move (v:=.int .i64 i3) rfl) ?_
   obtain ⟨x6,hx9,hm⟩:=bnd hm
   obtain ⟨k7,hk10,hl11,hx9⟩:=getI_some hx9
   obtain ⟨b13,o14,rfl,hbb13⟩:=ha0.addr (by omega)
   obtain ⟨cs8,hRcs8,hc12⟩:=ha0.el hx9
   have hScs8:=hRcs8
   obtain rfl:=hRcs8
   refine RQ.y rfl (Y.indexAddr (m:=k7) (sz:=1) rfl rfl hk10 hl11 (by kernel_rfl))<|RQ.y rfl (Y.load (v:=.int .i64 x6) rfl (by kernel_rfl) (beC (cellT T (hc12 0 _ rfl))))<|RQ.y rfl (Y.move (v:=.slice Aa1 d1.length ca1) s1_1)<|RQ.y rfl (Y.move (v:=.int .i64 i3) rfl) ?_
   obtain ⟨x15,hx18,hm⟩:=bnd hm
   obtain ⟨k16,hk19,hl20,hx18⟩:=getI_some hx18
   obtain ⟨b22,o23,rfl,hbb22⟩:=ha1.addr (by omega)
   obtain ⟨cs17,hRcs17,hc21⟩:=ha1.el hx18
   have hScs17:=hRcs17
   obtain rfl:=hRcs17
   refine RQ.y rfl (Y.indexAddr (m:=k16) (sz:=1) rfl rfl hk19 hl20 (by kernel_rfl))<|RQ.y rfl (Y.load (v:=.int .i64 x15) rfl (by kernel_rfl) (beC (cellT T (hc21 0 _ rfl))))<|RQ.y rfl (Y.binI (v:=.bool (x6 != x15)) rfl rfl rfl)<|RQ.nil ?_
   intro w24 hb25
   have szw24:=hb25.size
   have T:=Tt T hb25
   refine then_n ?_
   rcases bcases (x6 != x15) with c26|c26
   ·replace hm:=cF c26 hm
    refine cond_f rfl (vb rfl c26)<|wp_skip ?_
    refine blk_n (then_n ?_)
    refine wp_rs rfl<|RQ.y rfl (Y.binI s13_1 rfl (binI_add (m:=i3) (by omega)))<|RQ.y rfl (Y.move (v:=.int .i64 (i3+1)) rfl)<|RQ.nil ?_
    exact (then_n ⟨g,_,Nat.lt_succ_self _,rfl,⟨(i3+1),s0_1,s1_1,s12_1,rfl,(by omega),T,(by rw [← hrec1]; exact hm)⟩⟩)
   replace hm:=cT c26 hm
   refine cond_t rfl (vb rfl c26)<|wp_seq<|wp_rs rfl<|RQ.y rfl (Y.assign (v:=.bool false) rfl)<|RQ.nil<|then_n<|wp_ret ?_
   obtain rfl:=sj hm
   exact (blk_r (then_r (then_r (hit_r (blk_r (then_r (ret1 rfl rfl rfl ⟨rfl,T⟩)))))))
  replace hm:=cT c1 hm
  refine cond_t rfl (vb rfl c1)<|wp_seq<|wp_rs rfl<|RQ.y rfl (Y.assign (v:=.bool false) rfl)<|RQ.nil<|then_n<|wp_ret ?_
  obtain rfl:=sj hm
  exact (then_r (ret1 rfl rfl rfl ⟨rfl,T⟩))
end
section
open Go.RowKit
set_option maxRecDepth 100000
noncomputable def m_laws_toInt64S_A1 (xs8:List Int):Option (List Int):=
  some xs8
noncomputable def m_laws_toInt64S_B1 (d0:List Int) (rec1:List Int→Int→Option (List Int)) (K1:List Int→Option (List Int)) (xs10:List Int) (i11:Int):Option (List Int):=
  (bif (decide (i11 < (d0.length:Int))) then ((getI d0 i11).bind fun x14=>((getI xs10 i11).bind fun x25=>(rec1 (setI xs10 i11 x14) (i11+1)))) else (K1 xs10))
noncomputable def m_laws_toInt64S_L1 (d0:List Int) (K1:List Int→Option (List Int)):Nat→List Int→Int→Option (List Int)
  |0,_,_=>none
  |g+1,xs10,i11=>m_laws_toInt64S_B1 d0 (m_laws_toInt64S_L1 d0 K1 g) K1 xs10 i11
noncomputable def m_laws_toInt64S (d0:List Int):Option (List Int):=
  ((mustP (d0.length≤4294967296)).bind fun _=>(m_laws_toInt64S_L1 d0 m_laws_toInt64S_A1 (d0.length+1) (List.replicate d0.length 0) 0))
set_option maxHeartbeats 2000000 in
theorem c_m_laws_toInt64S (d0:List Int) (r:List Int) (hm:m_laws_toInt64S d0=some r) (v0:Value) (w:World) (hv0:Sl intRd 1 w v0 d0) :
    Calls Tryz.prog 115 #[v0] w fun e w'=>(∃(v0:Value),e=.returned (v0)∧OwF 2 encI 1 w' w.heap.size v0 r)∧Below w.heap.size w w':=by
  obtain ⟨Aa0,na0,ca0,rfl,ha0,ra0⟩:=hv0
  have ea0:=ha0.len; subst ea0
  have qa0:=len_le ra0
  have T:=Below.refl w.heap.size w
  unfold m_laws_toInt64S at hm
  refine enter 22 Tryz.func115 rfl rfl rfl ?_
  intro f hf
  have s0:f 0=.slice Aa0 d0.length ca0:=hf 0 _ rfl
  refine wp_seq<|wp_rs rfl<|RQ.y rfl (Y.assign (v:=.slice none 0 0) rfl)<|RQ.nil<|then_n<|wp_seq<|wp_rl rfl<|RL.y rfl (Y.move (v:=.slice Aa0 d0.length ca0) s0)<|RL.y rfl (Y.len (by kernel_rfl) rfl) ?_
  obtain ⟨_,m1,hm⟩:=bnd hm
  have hk2:=mustP_some m1
  refine RL.make (enc:=encI) (z0:=0) (n:=d0.length) app_int64 (by decide) rfl rfl rfl rfl hk2 (fun w3 G4 hb5 szw3=>?_)
  replace G4:=OwF.mono G4 T.size
  have T:=Tt T hb5
  refine RL.y rfl (Y.assign (v:=.slice (some ⟨w.heap.size,0,none⟩) d0.length d0.length) rfl)<|RL.nil<|then_n<|wp_seq<|wp_seq<|wp_rs rfl<|RQ.y rfl (Y.assign (v:=.int .i64 0) rfl)<|RQ.nil<|then_n<|wp_block ?_
  obtain ⟨K1,hK1,hm⟩ :∃K,K=m_laws_toInt64S_A1∧m_laws_toInt64S_L1 d0 K (d0.length+1) (List.replicate d0.length 0) 0=some r:=⟨_,rfl,hm⟩
  refine wp_loopX (fun g f w'=>∃(xs10:List Int) (i11:Int) (uxs10:Value),f 0=.slice Aa0 d0.length ca0∧f 3=uxs10∧OwF 2 encI 1 w' w.heap.size uxs10 xs10∧f 4=.int .i64 i11∧0≤i11∧Below w.heap.size w w'∧m_laws_toInt64S_L1 d0 K1 g xs10 i11=some r) 0 (fun f w'=>∃(xs8:List Int) (uxs8:Value),f 3=uxs8∧OwF 2 encI 1 w' w.heap.size uxs8 xs8∧Below w.heap.size w w'∧m_laws_toInt64S_A1 xs8=some r) (d0.length+1) ⟨(List.replicate d0.length 0),0,(.slice (some ⟨w.heap.size,0,none⟩) d0.length d0.length),s0,rfl,G4,rfl,(by omega),T,hm⟩ ?_ ?_
  ·rintro f w9 ⟨xs8,uxs8,s3_1x,Guxs8,T,hm⟩
   unfold m_laws_toInt64S_A1 at hm
   refine blk_hit (then_n ?_)
   refine wp_seq<|wp_rs rfl<|RQ.y rfl (Y.move (v:=uxs8) s3_1x)<|RQ.y rfl (Y.assign (v:=uxs8) rfl)<|RQ.nil<|then_n<|wp_ret ?_
   obtain rfl:=sj hm
   exact (ret1 rfl rfl rfl ⟨⟨_,rfl,Guxs8⟩,T⟩)
  rintro g f w12 ⟨xs10,i11,uxs10,s0_1,s3_1,Guxs10,s4_1,nn4_1,T,hm⟩
  rcases g with _|g
  ·simp only [m_laws_toInt64S_L1] at hm; cases hm
  obtain ⟨rec1,hrec1,hm⟩ :∃z,z=m_laws_toInt64S_L1 d0 K1 g∧m_laws_toInt64S_B1 d0 z K1 xs10 i11=some r:=⟨_,rfl,hm⟩
  unfold m_laws_toInt64S_B1 at hm
  refine wp_seq<|wp_seq<|wp_rs rfl<|RQ.y rfl (Y.move (v:=.int .i64 i11) s4_1)<|RQ.y rfl (Y.move (v:=.slice Aa0 d0.length ca0) s0_1)<|RQ.y rfl (Y.len (by kernel_rfl) rfl)<|RQ.y rfl (Y.binI (v:=.bool (decide (i11 < (d0.length:Int)))) rfl rfl rfl)<|RQ.nil<|then_n ?_
  rcases bcases (decide (i11 < (d0.length:Int))) with c13|c13
  ·replace hm:=cF c13 hm
   have pc13:=of_decide_eq_false c13
   refine cond_f rfl (vb rfl c13)<|wp_exit ?_
   exact (then_x (then_x (hit_x ⟨_,rfl,⟨xs10,(uxs10),s3_1,Guxs10,T,(by rw [hK1] at hm; exact hm)⟩⟩)))
  replace hm:=cT c13 hm
  have pc13:=of_decide_eq_true c13
  refine cond_t rfl (vb rfl c13)<|wp_skip<|then_n<|wp_seq<|wp_block<|wp_rl rfl<|RL.y rfl (Y.move (v:=uxs10) s3_1)<|RL.y rfl (Y.move (v:=.int .i64 i11) s4_1)<|RL.y rfl (Y.move (v:=.slice Aa0 d0.length ca0) s0_1)<|RL.y rfl (Y.move (v:=.int .i64 i11) s4_1) ?_
  obtain ⟨x14,hx17,hm⟩:=bnd hm
  obtain ⟨k15,hk18,hl19,hx17⟩:=getI_some hx17
  obtain ⟨b21,o22,rfl,hbb21⟩:=ha0.addr (by omega)
  obtain ⟨cs16,hRcs16,hc20⟩:=ha0.el hx17
  have hScs16:=hRcs16
  obtain rfl:=hRcs16
  refine RL.y rfl (Y.indexAddr (m:=k15) (sz:=1) rfl rfl hk18 hl19 (by kernel_rfl))<|RL.y rfl (Y.load (v:=.int .i64 x14) rfl (by kernel_rfl) (eqC (cellT T (hc20 0 _ rfl)))) ?_
  obtain ⟨A23,c24,rfl⟩:=OwF.form Guxs10
  have qbA23:=OwF.bound Guxs10
  obtain ⟨x25,hx27,hm⟩:=bnd hm
  obtain ⟨k26,hk28,hl29,hx27⟩:=getI_some hx27
  obtain ⟨b30,rfl⟩:=OwF.addr0 Guxs10 (by omega)
  refine RL.y rfl (Y.indexAddr (m:=k26) (sz:=1) rfl rfl hk28 hl29 (by kernel_rfl)) ?_
  refine RL.storeF (k:=k26) (a:=x14) fI rfl rfl rfl Guxs10 hl29 rfl (by kernel_rfl) (fun w31 G32 ho33=>?_)
  have szw31:=ho33.size
  have T:=T.trans (ho33.below (by intro b hb; simp at hb; subst hb; exact OwF.lo_ Guxs10 _ rfl))
  have G32:OwF 2 encI 1 w31 w.heap.size (.slice (some ⟨b30,0,none⟩) xs10.length c24) (setI xs10 i11 x14):=by rw [setI_eq hk28]; exact G32
  have hx34:(setI xs10 i11 x14)[k26]? = some x14:=setI_at hk28 hl29
  have hl35:=lt_of_some hx34
  refine RL.nil ?_
  refine blk_n (then_n ?_)
  refine wp_rs rfl<|RQ.y rfl (Y.move (v:=.int .i64 i11) s4_1)<|RQ.y rfl (Y.binI rfl rfl (binI_add (m:=i11) (by omega)))<|RQ.y rfl (Y.assign (v:=.int .i64 (i11+1)) rfl)<|RQ.nil ?_
  exact (then_n ⟨g,_,Nat.lt_succ_self _,rfl,⟨(setI xs10 i11 x14),(i11+1),(.slice (some ⟨b30,0,none⟩) xs10.length c24),s0_1,s3_1,G32,rfl,(by omega),T,(by rw [← hrec1]; exact hm)⟩⟩)
end
section
open Go.RowKit
/-- A loop that goes through the states st 0, st 1, .. and ends at st n. -/
theorem traj {σ ρ:Type} {L:Nat→σ→Option ρ} {st:Nat→σ} {n:Nat} {r:Option ρ} (h :∀g k,k < n→L (g+1) (st k)=L g (st (k+1))) (he :∀g,L (g+1) (st n)=r) :∀g,n < g→L g (st 0)=r:=by
  have key :∀d k g,k+d=n→d < g→L g (st k)=r:=by
    intro d
    induction d with
    |zero=>
      intro k g hk hg
      obtain ⟨g,rfl⟩ :∃g',g=g'+1:=⟨g - 1,by omega⟩
      obtain rfl:k=n:=by omega
      exact he g
    |succ d ih=>
      intro k g hk hg
      obtain ⟨g,rfl⟩ :∃g',g=g'+1:=⟨g - 1,by omega⟩
      rw [h g k (by omega)]
      exact ih (k+1) g (by omega) (by omega)
  intro g hg
  exact key n 0 g (by omega) hg
/-- A loop over an index. -/
theorem trajI {ρ:Type} {L:Nat→Int→Option ρ} {n:Nat} {r:Option ρ} (h :∀g (k:Nat),k < n→L (g+1) (k:Int)=L g ((k:Int)+1)) (he :∀g,L (g+1) (n:Int)=r) (g:Nat) (hg:n < g):L g 0=r:=
  traj (L:=fun g (k:Nat)=>L g (k:Int)) (st:=fun k=>k) (fun g k hk=>by simpa using h g k hk) he g hg
open Classical in
/-- A loop that asks p of each index. -/
theorem allI {ρ:Type} {L:Nat→Int→Option ρ} {n:Nat} {p:Nat→Prop} {no K:Option ρ} (h1 :∀g (k:Nat),k < n→p k→L (g+1) (k:Int)=L g ((k:Int)+1)) (h2 :∀g (k:Nat),k < n→¬ p k→L (g+1) (k:Int)=no) (h3 :∀g,L (g+1) (n:Int)=K) (g:Nat) (hg:n < g) :
    L g 0=if∀k,k < n→p k then K else no:=by
  by_cases ha :∀k,k < n→p k
  · rw [if_pos ha]
    exact trajI (fun g k hk=>h1 g k hk (ha k hk)) h3 g hg
  · rw [if_neg ha]
    have hex :∃k,k < n∧¬ p k:=by
      apply Classical.byContradiction
      intro hn
      exact ha fun k hk=>Classical.byContradiction fun hp=>hn ⟨k,hk,hp⟩
    obtain ⟨m,⟨hm,hpm⟩,hleast⟩ :∃m,(m < n∧¬ p m)∧∀k,k < m→k < n→p k:=by
      obtain ⟨k0,hk0⟩:=hex
      induction k0 using Nat.strongRecOn with
      |_ k0 ih=>
        by_cases h :∃k,k < k0∧k < n∧¬ p k
        · obtain ⟨k,hk,hk1⟩:=h
          exact ih k hk hk1
        · exact ⟨k0,hk0,fun k hk hkn=>Classical.byContradiction fun hp=>h ⟨k,hk,hkn,hp⟩⟩
    exact trajI (n:=m) (fun g k hk=>h1 g k (by omega) (hleast k hk (by omega))) (fun g=>h2 g m hm hpm) g (by omega)
theorem allO {ρ:Type} {L:Nat→Int→Option ρ} {n:Nat} {p:Nat→Prop} {no K:Option ρ} (h1 :∀g (k:Nat),k < n→p k→L (g+1) (k:Int)=L g ((k:Int)+1)) (h2 :∀g (k:Nat),k < n→¬ p k→L (g+1) (k:Int)=no) (h3 :∀g,L (g+1) (n:Int)=K) (g:Nat) (hg:n < g) :
    ((∀k,k < n→p k)∧L g 0=K) ∨ ((¬∀k,k < n→p k)∧L g 0=no):=by
  have h:=allI h1 h2 h3 g hg
  by_cases ha :∀k,k < n→p k
  · rw [if_pos ha] at h; exact .inl ⟨ha,h⟩
  · rw [if_neg ha] at h; exact .inr ⟨ha,h⟩
theorem getI_lt {α:Type} {xs:List α} {k:Nat} (h:k < xs.length):getI xs (k:Int)=some xs[k]:=by simp [getI,h]
theorem dlt {k n:Nat} (h:k < n):decide ((k:Int) < (n:Int))=true:=by simp; omega
theorem dge {n:Nat} : decide ((n:Int) < (n:Int))=false:=by simp
end
section
open Go.RowKit
def defIx (n:Int):Bool:=decide (0≤n) && decide (n≤23)
def int32B (n:Int):Bool:=decide (-2147483648≤n) && decide (n≤2147483647)
def operB (n:Int):Bool:=decide (1≤n) && decide (n≤6)
/-- All ports in order. -/
def agentPorts (i:Nat) (x:DAgent):List DPort:=(List.range x.ports.length).map fun (k:Nat)=>⟨i,k⟩
def portsFrom:Nat→List DAgent→List DPort
  |_,[]=>[]
  |i,x :: xs=>agentPorts i x ++ portsFrom (i+1) xs
def allPorts (xs:List DAgent):List DPort:=portsFrom 0 xs
end
section
open Go.RowKit
theorem p_isDef (n:Int):m_impl_isDefIndex n=some (defIx n):=by
  unfold m_impl_isDefIndex defIx
  simp only [Bool.cond_eq_ite,decide_eq_true_eq]
  by_cases h:0≤n <;> simp [h] <;> omega
theorem p_isInt (n:Int):m_impl_isInt n=some (int32B n):=by
  unfold m_impl_isInt int32B
  simp only [Bool.cond_eq_ite,decide_eq_true_eq]
  by_cases h:-2147483648≤n <;> simp [h]
theorem p_isOper (n:Int):m_impl_isOperator n=some (operB n):=by
  unfold m_impl_isOperator operB
  simp only [Bool.cond_eq_ite,decide_eq_true_eq]
  by_cases h:1≤n <;> simp [h]
theorem p_index_int (d:List Int) (p:Int→Option Bool) (q:Int→Bool) (h :∀x∈d,p x=some (q x)) :∃i,m_slices_IndexFunc_int64_int64 d p=some i∧decide (i ≥ 0)=d.any q:=by
  unfold m_slices_IndexFunc_int64_int64
  by_cases ha :∃k,k < d.length∧∃x,d[k]? = some x∧q x=true
  · obtain ⟨m,⟨hm,x,hx,hq⟩,hl⟩ :∃m,(m < d.length∧∃x,d[m]? = some x∧q x=true)∧∀k,k < m→∀y,d[k]? = some y→q y=false:=by
      obtain ⟨k0,hk0⟩:=ha
      induction k0 using Nat.strongRecOn with
      |_ k0 ih=>
        by_cases hh :∃k,k < k0∧k < d.length∧∃x,d[k]? = some x∧q x=true
        · obtain ⟨k,hk,hk1⟩:=hh; exact ih k hk hk1
        · exact ⟨k0,hk0,fun k hk y hy=>by
            cases hq:q y with
            |false=>rfl
            |true=>exact absurd ⟨k,hk,lt_of_some hy,y,hy,hq⟩ hh⟩
    refine ⟨m,?_,?_⟩
    · refine trajI (n:=m) (fun g k hk=>?_) (fun g=>?_) _ (by omega)
      · have hkl:k < d.length:=by omega
        have hy:=List.getElem?_eq_getElem hkl
        simp [m_slices_IndexFunc_int64_int64_L1,m_slices_IndexFunc_int64_int64_B1,hkl,getI_lt hkl,h _ (List.getElem_mem hkl),hl k hk _ hy]
      · have hmem:=List.mem_of_getElem? hx
        simp [m_slices_IndexFunc_int64_int64_L1,m_slices_IndexFunc_int64_int64_B1,hm,getI_nat hx,h _ hmem,hq]
    · have:d.any q=true:=List.any_eq_true.2 ⟨x,List.mem_of_getElem? hx,hq⟩
      rw [this]; simp
  · refine ⟨-1,?_,?_⟩
    · refine trajI (n:=d.length) (fun g k hk=>?_) (fun g=>?_) _ (by omega)
      · have hq:q d[k] = false:=by
          cases hq:q d[k] with
          |false=>rfl
          |true=>exact absurd ⟨k,hk,_,List.getElem?_eq_getElem hk,hq⟩ ha
        simp [m_slices_IndexFunc_int64_int64_L1,m_slices_IndexFunc_int64_int64_B1,hk,getI_lt hk,h _ (List.getElem_mem hk),hq]
      · simp [m_slices_IndexFunc_int64_int64_L1,m_slices_IndexFunc_int64_int64_B1,m_slices_IndexFunc_int64_int64_A1]
    · have:d.any q=false:=List.any_eq_false.2 fun x hx hq=>by
        obtain ⟨k,hk,rfl⟩:=List.getElem_of_mem hx
        exact ha ⟨k,hk,_,List.getElem?_eq_getElem hk,hq⟩
      rw [this]; simp
theorem p_contains_int (d:List Int) (p:Int→Option Bool) (q:Int→Bool) (h :∀x∈d,p x=some (q x)):m_slices_ContainsFunc_int64_int64 d p=some (d.any q):=by
  obtain ⟨i,h1,h2⟩:=p_index_int d p q h
  simp -implicitDefEqProofs only [m_slices_ContainsFunc_int64_int64,h1,Option.bind_some,h2]
/-- No list is longer than what a net of the laws may hold. -/
def Small (xs:List DAgent):Prop:=szAgentS xs≤1048576
theorem Small.len {xs:List DAgent} (h:Small xs):xs.length≤1048576:=by unfold Small szAgentS at h; omega
theorem sum_mem {α:Type} {f:α→Nat} {xs:List α} {x:α} (h:x∈xs):f x≤(xs.map f).sum:=by
  induction xs with
  |nil=>cases h
  |cons y ys ih=>
    rcases List.mem_cons.1 h with rfl|h
    · simp
    · have:=ih h; simp; omega
theorem Small.ports {xs:List DAgent} (h:Small xs) {x:DAgent} (hx:x∈xs):x.ports.length≤1048576:=by
  have:=sum_mem (f:=szAgent) hx
  have e:szAgent x=x.data.length+x.ports.length:=rfl
  unfold Small szAgentS at h; omega
theorem Small.data {xs:List DAgent} (h:Small xs) {x:DAgent} (hx:x∈xs):x.data.length≤1048576:=by
  have:=sum_mem (f:=szAgent) hx
  have e:szAgent x=x.data.length+x.ports.length:=rfl
  unfold Small szAgentS at h; omega
theorem portsFrom_len :∀(i:Nat) (xs:List DAgent),(portsFrom i xs).length≤(xs.map szAgent).sum
  |_,[]=>by simp [portsFrom]
  |i,x :: xs=>by have:=portsFrom_len (i+1) xs; simp [portsFrom,agentPorts,szAgent]; omega
theorem Small.all {xs:List DAgent} (h:Small xs):(allPorts xs).length≤1048576:=by
  have:=portsFrom_len 0 xs
  unfold Small szAgentS at h; unfold allPorts; omega
end
section
open Go.RowKit
theorem copy_set {α:Type} {xs:List α} {z:α} {k:Nat} (hk:k < xs.length):setI (xs.take k ++ List.replicate (xs.length - k) z) (k:Int) xs[k] = xs.take (k+1) ++ List.replicate (xs.length - (k+1)) z:=by
  rw [setI_nat]
  obtain ⟨m,hm⟩ :∃m,xs.length - k=m+1:=⟨xs.length - k - 1,by omega⟩
  have hm2:xs.length - (k+1)=m:=by omega
  have hl:(xs.take k).length=k:=by simp; omega
  rw [hm,hm2,List.replicate_succ,List.set_append_right _ _ (by omega),hl,Nat.sub_self,List.set_cons_zero,List.take_succ_eq_append_getElem hk,List.append_assoc]
  rfl
theorem copy_get {α:Type} {xs:List α} {z:α} {k:Nat} (hk:k < xs.length):getI (xs.take k ++ List.replicate (xs.length - k) z) (k:Int)=some z:=by
  have hl:(xs.take k).length=k:=by simp; omega
  refine getI_nat ?_
  rw [List.getElem?_append_right (by omega),hl,Nat.sub_self,List.getElem?_replicate]
  simp; omega
theorem copyI {α ρ:Type} {L:Nat→List α→Int→Option ρ} {xs:List α} {z:α} {K:List α→Option ρ} (h :∀g (k:Nat) acc (hk:k < xs.length),getI acc (k:Int)=some z→L (g+1) acc (k:Int)=L g (setI acc (k:Int) xs[k]) ((k:Int)+1)) (he :∀g acc,L (g+1) acc (xs.length:Int)=K acc) :
    L (xs.length+1) (List.replicate xs.length z) 0=K xs:=by
  have:=traj (L:=fun g (s:List α × Int)=>L g s.1 s.2) (st:=fun k=>(xs.take k ++ List.replicate (xs.length - k) z,(k:Int))) (n:=xs.length) (r:=K xs)
    (fun g k hk=>by
      simp only
      rw [h g k _ hk (copy_get hk),copy_set hk]
      simp only [Int.natCast_add,Int.cast_ofNat_Int])
    (fun g=>by simp only; rw [he]; simp) (xs.length+1) (Nat.lt_succ_self _)
  simpa using this
theorem eqI {α ρ:Type} [DecidableEq α] {L:Nat→Int→Option ρ} {xs ys:List α} {no yes:Option ρ} (hl:xs.length=ys.length) (h :∀g (k:Nat) (hx:k < xs.length) (hy:k < ys.length),L (g+1) (k:Int)=if xs[k] = ys[k] then L g ((k:Int)+1) else no) (he :∀g,L (g+1) (xs.length:Int)=yes) (g:Nat) (hg:xs.length < g) :
    L g 0=if xs=ys then yes else no:=by
  have key:=allO (L:=L) (n:=xs.length) (p:=fun k=>xs[k]? = ys[k]?) (no:=no) (K:=yes)
    (fun g k hk hp=>by
      have hy:k < ys.length:=by omega
      rw [h g k hk hy,if_pos]
      rw [List.getElem?_eq_getElem hk,List.getElem?_eq_getElem hy] at hp
      injection hp)
    (fun g k hk hp=>by
      have hy:k < ys.length:=by omega
      rw [h g k hk hy,if_neg]
      intro e
      rw [List.getElem?_eq_getElem hk,List.getElem?_eq_getElem hy,e] at hp
      exact hp rfl) he g hg
  rcases key with ⟨h1,h2⟩|⟨h1,h2⟩
  · have e:xs=ys:=List.ext_getElem? fun k=>by
      by_cases hk:k < xs.length
      · exact h1 k hk
      · rw [List.getElem?_eq_none (by omega),List.getElem?_eq_none (by omega)]
    rw [if_pos e,h2]
  · rw [if_neg,h2]
    intro e
    exact h1 fun k _=>by rw [e]
end
section
open Go.RowKit
theorem bne_nat {n m:Nat} : ((n:Int) != (m:Int)) = !decide (n=m):=by
  by_cases h:n=m
  · subst h; simp
  · simp [h]; omega
theorem ite_dec {p:Prop} [Decidable p] : (if p then some true else some false:Option Bool)=some (decide p):=by
  by_cases h:p <;> simp [h]
theorem decide_len {α:Type} [DecidableEq α] {xs ys:List α} (h:¬ xs.length=ys.length):decide (xs=ys)=false:=decide_eq_false fun e=>h (by rw [e])
theorem p_EqInt (xs ys:List Int):m_slices_Equal_int64_int64 xs ys=some (decide (xs=ys)):=by
  unfold m_slices_Equal_int64_int64
  rw [bne_nat]
  by_cases hl:xs.length=ys.length
  · rw [decide_eq_true hl,Bool.not_true,cond_false,← ite_dec]
    exact eqI hl (fun g k hx hy=>by
      simp -implicitDefEqProofs only [m_slices_Equal_int64_int64_L1,m_slices_Equal_int64_int64_B1,dlt hx,cond_true,getI_nat (List.getElem?_eq_getElem hx),getI_nat (List.getElem?_eq_getElem hy),Option.bind_some]
      by_cases h:xs[k] = ys[k]
      · rw [if_pos h,show (xs[k] != ys[k])=false by simpa using h,cond_false]
      · rw [if_neg h,show (xs[k] != ys[k])=true by simpa using h,cond_true])
      (fun g=>by simp -implicitDefEqProofs only [m_slices_Equal_int64_int64_L1,m_slices_Equal_int64_int64_B1,dge,cond_false,m_slices_Equal_int64_int64_A1]) _ (Nat.lt_succ_self _)
  · rw [decide_eq_false hl,Bool.not_false,cond_true,decide_len hl]
end
section
open Go.RowKit
noncomputable instance:DecidableEq DType:=fun a b=>Classical.propDecidable (a=b)
noncomputable instance:DecidableEq DTypedNet:=fun a b=>Classical.propDecidable (a=b)
/-- Names and rows are not longer than Go's largest length. -/
inductive OkTy:DType→Prop
  |mk {x:DType} (h:x.name.size≤maxLen) (hl:x.kids.length≤maxLen) (hk :∀y,y∈x.kids→OkTy y):OkTy x
theorem OkTy.len {x:DType} (h:OkTy x):x.kids.length≤maxLen:=by cases h; assumption
theorem OkTy.kids {x:DType} (h:OkTy x) :∀y∈x.kids,OkTy y:=by cases h; assumption
theorem maxLen_le {n:Nat} (h:n≤maxLen):n≤9223372036854775807:=by unfold maxLen at h; omega
theorem szL_step {left:Int} {a b:Nat} : (if szL left a < 0 then -1 else szL (szL left a) b)=szL left (a+b):=by
  unfold szL
  by_cases h:left - a < 0
  · rw [if_pos h,if_pos (by decide),if_pos (by omega)]
  · rw [if_neg h,if_neg h]
    by_cases h2:left - a - b < 0
    · rw [if_pos h2,if_pos (by omega)]
    · rw [if_neg h2,if_neg (by omega)]; omega
/-- A loop that takes sizes away. -/
theorem subI {α:Type} {L:Nat→Int→Int→Option Int} {d:List α} {s:α→Nat} {ok:α→Prop} (h :∀g (k:Nat) x left,d[k]? = some x→0≤left→left≤1048576→L (g+1) left (k:Int)=bif decide (szL left (s x) < 0) then some (-1) else L g (szL left (s x)) ((k:Int)+1)) (he :∀g left,L (g+1) left (d.length:Int)=some left) :
    ∀(m k g:Nat) (left:Int),k+m=d.length→m < g→0≤left→left≤1048576→L g left (k:Int)=some (szL left ((d.drop k).map s).sum):=by
  intro m
  induction m with
  |zero=>
    intro k g left hk hg h0 h1
    obtain ⟨g,rfl⟩ :∃g',g=g'+1:=⟨g - 1,by omega⟩
    rw [show k=d.length by omega,he,List.drop_length]
    simp [szL]; omega
  |succ m ih=>
    intro k g left hk hg h0 h1
    obtain ⟨g,rfl⟩ :∃g',g=g'+1:=⟨g - 1,by omega⟩
    have hx:=List.getElem?_eq_getElem (show k < d.length by omega)
    rw [h g k _ left hx h0 h1,List.drop_eq_getElem_cons (show k < d.length by omega),List.map_cons,List.sum_cons,← szL_step]
    by_cases hn:szL left (s d[k]) < 0
    · rw [decide_eq_true hn,cond_true,if_pos hn]
    · rw [decide_eq_false hn,cond_false,if_neg hn]
      have hle:szL left (s d[k])≤1048576:=by unfold szL; split <;> omega
      exact ih (k+1) g _ (by omega) (by omega) (by omega) hle
/-- A loop that asks whether two rows are equal, element by element. -/
theorem rowEq {α:Type} [DecidableEq α] {L:Nat→Int→Option Bool} {xs ys:List α} {q:α→α→Option Bool} (hl:xs.length=ys.length) (hq :∀x∈xs,∀y,q x y=some (decide (x=y)))
    (h :∀g (k:Nat) (hx:k < xs.length) (hy:k < ys.length),L (g+1) (k:Int)=(q xs[k] ys[k]).bind fun b=>bif b then L g ((k:Int)+1) else some false) (he :∀g,L (g+1) (xs.length:Int)=some true):L (xs.length+1) 0=some (decide (xs=ys)):=by
  rw [← ite_dec]
  refine eqI hl (fun g k hx hy=>?_) he _ (Nat.lt_succ_self _)
  rw [h g k hx hy,hq _ (List.getElem_mem hx),Option.bind_some]
  by_cases h2:xs[k] = ys[k]
  · rw [if_pos h2,decide_eq_true h2,cond_true]
  · rw [if_neg h2,decide_eq_false h2,cond_false]
end
section
open Go.RowKit Go.Maps
section
variable {α : Type} {R : Rd α} {sz B n c l : Nat} {w : World} {A Av : Option Addr} {xs : List α}
theorem SlAt.takeV (h:SlAt R sz w B A n xs) (r:n≤c∧c≤maxLen) (hl:l≤xs.length) (eA:(if c=0 then A else A.map (·.add (0 * sz)))=Av):SlAt R sz w B Av l (xs.take l)∧l≤c∧c≤maxLen:=by
  have hn:=h.1
  refine ⟨⟨by rw [List.length_take]; omega,fun h0=>?_⟩,by omega,r.2⟩
  obtain ⟨b,off,ea,hb,hc⟩:=h.2 (by omega)
  subst ea
  rw [if_neg (by omega)] at eA
  subst eA
  refine ⟨b,off+0 * sz,by simp only [Option.map_some,Addr.add_eq],hb,fun i x hx=>?_⟩
  have hil:i < l:=by have:=lt_of_some hx; rw [List.length_take] at this; omega
  rw [List.getElem?_take_of_lt hil] at hx
  obtain ⟨cs,h1,h2⟩:=hc _ x hx
  refine ⟨cs,h1,fun j v hj=>?_⟩
  have:=h2 j v hj
  rwa [Nat.zero_mul,Nat.add_zero]
end
section
variable {P : Program} {C : World → Prop} {f : Nat → Value} {d : Option Tmp} {ty : TypeId} {pos : String} {af : Array Edge} {g : Option (Nat × Bool)} {x y : Operand} {t : TypeId} {A Av : Option Addr} {n c : Nat}
theorem Y.sliceH {l sz N:Nat} {k:IntKind} {j:Int} (hx:ev f x=.slice A N c) (hy:ev f y=.int k j) (hj:j=(l:Int)) (hl:l≤N) (hc:N≤c) (ht:elemO P t=some sz) (eA:(if c=0 then A else A.map (·.add (0 * sz)))=Av) :
    Y P C f ⟨d,.slice t x none (some y) none,ty,pos,af,g⟩ (.slice Av l c):=fun w _=>by
  subst hj
  unfold elemO at ht
  split at ht
  · rename_i e hu
    cases hinf:P.info? e with
    |none=>rw [hinf] at ht; cases ht
    |some inf=>
      rw [hinf] at ht
      simp at ht
      subst ht
      have he:P.elem t=e:=by simp [Program.elem,hu]
      have hu':P.underlying t=some (.slice (P.elem t)):=by rw [he]; exact hu
      have:=run_slice_h (P:=P) (w:=w) t A N c hu' k (l:Int) (by omega) (by omega)
      simp only [Nat.zero_mul] at eA
      simp [execOp,hx,hy,run_sliceAt_slice,hu',this,he,sizeOf,typeInfo,hinf,sliced,eA]
  · cases ht
end
end
section
open Go.RowKit
/-- The first index at which p holds, or -1. -/
def idxD {α:Type} (d:List α) (p:α→Bool):Int:=match d.findIdx? p with|some i=>(i:Int)|none=>-1
theorem idxK {α:Type} {d:List α} {L:Nat→Int→Option Int} {p:α→Bool} (h :∀g (k:Nat) (hk:k < d.length),L (g+1) (k:Int)=bif p d[k] then some (k:Int) else L g ((k:Int)+1)) (he :∀g,L (g+1) (d.length:Int)=some (-1)) (g:Nat) (hg:d.length < g):L g 0=some (idxD d p):=by
  have key :∀(m k g:Nat),k+m=d.length→m < g→L g (k:Int)=some (match (d.drop k).findIdx? p with|some i=>((k+i:Nat):Int)|none=>-1):=by
    intro m
    induction m with
    |zero=>
      intro k g hk hg
      obtain ⟨g,rfl⟩ :∃g',g=g'+1:=⟨g - 1,by omega⟩
      obtain rfl:k=d.length:=by omega
      rw [he,List.drop_length]; rfl
    |succ m ih=>
      intro k g hk hg
      obtain ⟨g,rfl⟩ :∃g',g=g'+1:=⟨g - 1,by omega⟩
      have hl:k < d.length:=by omega
      rw [h g k hl,List.drop_eq_getElem_cons hl,List.findIdx?_cons]
      cases hp:p d[k] with
      |true=>simp
      |false=>
        have:=ih (k+1) g (by omega) (by omega)
        simp only [cond_false,Bool.false_eq_true,if_false]
        rw [show ((k:Int)+1)=((k+1:Nat):Int) by omega,this]
        cases (d.drop (k+1)).findIdx? p with
        |none=>rfl
        |some i=>
          show some (((k+1+i:Nat):Int))=some (((k+(i+1):Nat):Int))
          congr 1; omega
  have:=key d.length 0 g (by omega) hg
  rw [List.drop_zero] at this
  refine this.trans ?_
  unfold idxD
  cases d.findIdx? p <;> simp
theorem idxD_ge {α:Type} (d:List α) (p:α→Bool):decide (idxD d p ≥ 0)=d.any p:=by
  unfold idxD
  cases h:d.findIdx? p with
  |none=>
    have:=List.findIdx?_eq_none_iff.1 h
    rw [List.any_eq_false.2 (fun x hx=>by simp [this x hx])]
    rfl
  |some i=>
    have h2:d.any p=true:=by
      have:=List.findIdx?_eq_some_iff_getElem.1 h
      obtain ⟨hl,hp,_⟩:=this
      exact List.any_eq_true.2 ⟨d[i],List.getElem_mem _,hp⟩
    rw [h2]; simp
def b0 (s:ByteArray):Int:=match s.data.toList with|[]=>0|c :: _=>(c.toNat:Int)
end
section
open Go.RowKit
theorem take_snoc {α:Type} {ks:List α} {k:Nat} (hk:k < ks.length):ks.take (k+1)=ks.take k ++ [ks[k]]:=by
  rw [List.take_add_one,List.getElem?_eq_getElem hk]; rfl
theorem iteC {α:Sort _} {p q:Prop} [Decidable p] [Decidable q] {a b:α} (h:p↔q):(if p then a else b)=if q then a else b:=by
  by_cases hp:p
  · rw [if_pos hp,if_pos (h.1 hp)]
  · rw [if_neg hp,if_neg (fun hq=>hp (h.2 hq))]
end
section
open Go.RowKit
section
variable {v1 v2 v : Value} {w w' w2 : World} {b k : Nat} {bs : List Nat}
theorem KeepV.belowLo (K:KeepV v1 v2 w w') (hb:Below w.heap.size w' w2):KeepV v1 v2 w w2:=⟨Nat.le_trans K.size hb.size,fun b h1 h2 h3=>(hb.block b h1).trans (K.block b h1 h2 h3)⟩
theorem Below.weak {n m:Nat} (h:n≤m) (hb:Below m w w'):Below n w w':=hb.mono h
end
section
variable {α : Type} {R : Rd α} {O : Ow α} {enc : α → List Value} {sz lo : Nat} {w : World} {e : TypeId} {xs : List α} {A Av : Option Addr} {n c k : Nat}
theorem flatMap_takeE (hl :∀x,(enc x).length=sz) :∀(xs:List α) (k:Nat),(xs.flatMap enc).take (k * sz)=(xs.take k).flatMap enc
  |[],k=>by simp
  |x :: xs,0=>by simp
  |x :: xs,k+1=>by
    rw [List.flatMap_cons,List.take_succ_cons,List.flatMap_cons,← flatMap_takeE hl xs k,List.take_append,hl,List.take_of_length_le (by rw [hl]; exact Nat.le_mul_of_pos_left _ (by omega))]
    congr 2
    rw [Nat.add_mul,Nat.one_mul,Nat.add_sub_cancel]
theorem OwF.takeV (hl :∀x,(enc x).length=sz) (h:OwF e enc sz w lo (.slice A n c) xs) (hk:k≤xs.length) (eA:(if c=0 then A else A.map (·.add (0 * sz)))=Av):Av=A∧n≤c∧OwF e enc sz w lo (.slice A (xs.take k).length c) (xs.take k):=by
  have hkl:(xs.take k).length=k:=by rw [List.length_take]; omega
  rcases h.2 with ⟨hv,h0⟩|⟨g,cap,cur,hv,hg,hh,h1,h2,h3,h4⟩
  · injection hv with e1 e2 e3
    subst e1 e2 e3
    have hx:xs=[]:=List.eq_nil_of_length_eq_zero h0
    subst hx
    refine ⟨by rw [← eA]; rfl,Nat.le_refl _,?_⟩
    rw [List.take_nil]
    exact h
  · injection hv with e1 e2 e3
    subst e1 e3
    refine ⟨by rw [← eA]; split <;> simp [Addr.add],by omega,⟨?_,.inr ⟨g,c,cur,rfl,hg,hh,by rw [hkl]; omega,h2,h3,?_⟩⟩⟩
    · rw [hkl,← flatMap_takeE hl,List.length_take,h.1]
      exact Nat.min_eq_left (Nat.mul_le_mul_right _ hk)
    · rw [hkl,← flatMap_takeE hl,← h4,List.take_take,Nat.min_eq_left (Nat.mul_le_mul_right _ hk)]
theorem tkI {i:Int} (h0:0≤i) (h1:i.toNat≤xs.length):i=((xs.take i.toNat).length:Int):=by rw [List.length_take,Nat.min_eq_left h1]; omega
theorem tkLe {m:Nat} : (xs.take m).length≤xs.length:=by rw [List.length_take]; omega
end
end
end Go.Proofs.YtpbobilkejblgaaGreat
