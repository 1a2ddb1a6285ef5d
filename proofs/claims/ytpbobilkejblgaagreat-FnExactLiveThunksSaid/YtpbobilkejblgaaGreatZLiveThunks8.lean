/- Lemmas of the proof of LiveThunks, part 8. No condition. -/
import Derived.Test.YtpbobilkejblgaaGreatZLiveThunks7
namespace Go.Proofs.YtpbobilkejblgaaGreat
set_option linter.unusedVariables false
set_option linter.unusedSimpArgs false
section
open Go.RowKit
mutual
theorem cntC_le :∀x:DCore,cntC x≤2+2 * szCore x
  |⟨k,v,d,ks⟩=>by
    have:=cntCL_le ks
    rw [cntC,szCore]
    omega
theorem cntCL_le :∀xs:List DCore,cntCL xs≤2 * xs.length+2 * szCoreL xs
  |[]=>by rw [cntCL]; omega
  |x :: xs=>by
    have h1:=cntC_le x
    have h2:=cntCL_le xs
    rw [cntCL,szCoreL,List.length_cons]
    omega
end
theorem cntL_bound {α:Type} {cnt sz:α→Nat} {c:Nat} (h :∀x,cnt x≤c+2 * sz x) :∀xs:List α,cntL cnt xs≤c * xs.length+2 * (xs.map sz).sum
  |[]=>by simp [cntL]
  |x :: xs=>by
    have h1:=h x
    have h2:=cntL_bound h xs
    rw [cntL_cons,List.length_cons,List.map_cons,List.sum_cons,Nat.mul_succ]
    omega
theorem core_cnt (ks:List DCore):cntL cntC ks≤2 * szCoreS ks:=by
  have:=cntCL_le ks
  rw [cntCL_eq] at this
  unfold szCoreS
  omega
theorem frame_cnt (xs:List DFrame):cntL cntF xs≤4 * szFrameS xs:=by
  have:=cntL_bound (cnt:=cntF) (sz:=szFrame) (c:=4) (fun x=>by
    have h:=core_cnt x.closure.term.kids
    have e:=szCore_eq x.closure.term
    unfold cntF szFrame szClosure
    omega) xs
  unfold szFrameS
  omega
theorem thunk_cnt (xs:List DThunk):cntL cntT xs≤4 * szThunkS xs:=by
  have:=cntL_bound (cnt:=cntT) (sz:=szThunk) (c:=3) (fun x=>by
    have h:=core_cnt x.closure.term.kids
    have e:=szCore_eq x.closure.term
    unfold cntT szThunk szClosure
    omega) xs
  unfold szThunkS
  omega
def cntN (x:DNeed):Nat:=(x.control.term.data.length+cntL cntC x.control.term.kids)+x.control.env.length+cntL cntF x.stack+cntL cntT x.heap
def mkNe (k:Nat) (x:DNeed):DNeed:=⟨⟨⟨x.control.term.kind,x.control.term.value,marks k x.control.term.data.length,markCS (k+x.control.term.data.length) x.control.term.kids⟩,marks (k+(x.control.term.data.length+cntL cntC x.control.term.kids)) x.control.env.length⟩,markFS (k+(x.control.term.data.length+cntL cntC x.control.term.kids)+x.control.env.length) x.stack,markTS (k+(x.control.term.data.length+cntL cntC x.control.term.kids)+x.control.env.length+cntL cntF x.stack) x.heap⟩
set_option maxHeartbeats 8000000 in
theorem markNeed_q (v:Value) (x:DNeed) (w:World) (k0:Nat) (lo hi:Nat) (h:OwT needOw w v x lo hi) (hh:hi≤w.heap.size) (hs:szNeed x≤1048576) (hk:k0≤16777216) :
    Calls Tryz.prog 30 #[v,.int .i64 k0] w fun e w'=>e=.returned (.int .i64 ((k0+cntN x:Nat):Int))∧∃wb,Below w.heap.size w wb∧wb.heap.size=w'.heap.size∧OnlyIn lo hi wb w'∧OwT needOw w' v (mkNe k0 x) lo hi:=by
  obtain ⟨cs,bs,rfl,⟨A1,n1,c1,A2,n2,c2,A3,n3,c3,A4,n4,c4,A5,n5,c5,x1,x2,x3,x4,x5,rfl,⟨g1,r1⟩,⟨g2,r2⟩,⟨g3,r3⟩,⟨g4,r4⟩,⟨g5,r5⟩,rfl⟩,hnd,hb⟩:=h
  have hA :∀o1,Below w.heap.size w (w.alloc o1):=fun o1=>(Below.refl _ _).alloc (Nat.le_refl _) _
  have hz :∀o1,(w.alloc o1).heap.size=w.heap.size+1:=fun o1=>by simp
  have hlt :∀j∈x1 ++ x2 ++ x3 ++ x4 ++ x5,j < w.heap.size:=fun j hj=>by have:=hb j hj; omega
  have H1:=Lib.hid (show∀o1,OwAt intOw 1 (w.alloc o1) A1 n1 x.control.term.data x1 from fun o1=>g1.keep intOw_ok (fun j hj=>(hA o1).block j (hlt j (by simp [hj]))))
  have H2:=Lib.hid (show∀o1,OwAt coreOw 4 (w.alloc o1) A2 n2 x.control.term.kids x2 from fun o1=>g2.keep coreOw_ok (fun j hj=>(hA o1).block j (hlt j (by simp [hj]))))
  have H3:=Lib.hid (show∀o1,OwAt intOw 1 (w.alloc o1) A3 n3 x.control.env x3 from fun o1=>g3.keep intOw_ok (fun j hj=>(hA o1).block j (hlt j (by simp [hj]))))
  have H4:=Lib.hid (show∀o1,OwAt frameOw 8 (w.alloc o1) A4 n4 x.stack x4 from fun o1=>g4.keep frameOw_ok (fun j hj=>(hA o1).block j (hlt j (by simp [hj]))))
  have H5:=Lib.hid (show∀o1,OwAt thunkOw 6 (w.alloc o1) A5 n5 x.heap x5 from fun o1=>g5.keep thunkOw_ok (fun j hj=>(hA o1).block j (hlt j (by simp [hj]))))
  have N0:=Lib.hid (List.nodup_append.1 hnd)
  have N1:=Lib.hid (List.nodup_append.1 N0.out.1)
  have HN:=Lib.hid hnd
  have HB:=Lib.hid hb
  have HLT:=Lib.hid hlt
  have l4:=Lib.hid g4.len
  have l5:=Lib.hid g5.len
  have B0:=Lib.hid (show∀o1,(w.alloc o1).heap[w.heap.size]? = some o1 from fun o1=>heap_alloc_new w o1)
  have HZ:=Lib.hid hz
  have HA:=Lib.hid hA
  have hc1:=core_cnt x.control.term.kids
  have hc2:=frame_cnt x.stack
  have hc3:=thunk_cnt x.heap
  have hsz:szNeed x=(szCore x.control.term+x.control.env.length)+(szFrameS x.stack+szThunkS x.heap):=rfl
  have hsc:=szCore_eq x.control.term
  clear hb hnd hlt g1 g2 g3 g4 g5 hz hA
  go_enter Tryz.func30,Tryz.ntmps30
  go_wp2_with fail
  refine (markClosure_q x.control.term.kind x.control.term.value A1 A2 A3 n1 c1 n2 c2 n3 c3 x.control.term.data x.control.term.kids x.control.env x1 x2 x3 _ k0 (H1.out _) (H2.out _) (H3.out _) N1.out.1 (fun j hj=>by have:=HLT.out j (by simp only [List.mem_append] at hj ⊢; exact .inl (.inl hj)); rw [HZ.out]; omega) (by omega) (by omega) (by omega)).mono ?_
  rintro e w1 ⟨rfl,wb,b1,z1,o1,m1,m2,m3⟩
  have hbk:w.heap.size ∉ x1 ++ x2 ++ x3:=fun hin=>by have:=HLT.out w.heap.size (by simp only [List.mem_append] at hin ⊢; exact .inl (.inl hin)); omega
  have B1:Blk w1 w.heap.size 84 #[.int .i64 x.control.term.kind,.int .i64 x.control.term.value,.slice A1 n1 c1,.slice A2 n2 c2,.slice A3 n3 c3,.slice A4 n4 c4,.slice A5 n5 c5]:=(o1.block _ hbk).trans ((b1.block _ (by rw [HZ.out]; omega)).trans (B0.out _))
  have g0:=B1.cell
  have old :∀j,j∈x4 ++ x5→j ∉ x1 ++ x2 ++ x3:=fun j hj hin=>by
    rcases List.mem_append.1 hj with hj|hj
    · exact N1.out.2.2 j hin j hj rfl
    · exact N0.out.2.2 j (List.mem_append_left _ hin) j hj rfl
  have O4:OwAt frameOw 8 w1 A4 n4 x.stack x4:=(H4.out _).keep frameOw_ok (fun j hj=>(o1.block j (old j (by simp [hj]))).trans (b1.block j (by have:=HLT.out j (by simp [hj]); rw [HZ.out]; omega)))
  have O5:OwAt thunkOw 6 w1 A5 n5 x.heap x5:=(H5.out _).keep thunkOw_ok (fun j hj=>(o1.block j (old j (by simp [hj]))).trans (b1.block j (by have:=HLT.out j (by simp [hj]); rw [HZ.out]; omega)))
  have BB:Below w.heap.size w wb:=(HA.out _).trans (b1.mono (by rw [HZ.out]; omega))
  have M1:=Lib.hid m1
  have M2:=Lib.hid m2
  have M3:=Lib.hid m3
  have O1:=Lib.hid o1
  have Z1:=Lib.hid z1
  have HBB:=Lib.hid BB
  have HO4:=Lib.hid O4
  have HO5:=Lib.hid O5
  have HBK:=Lib.hid B1
  have HOLD:=Lib.hid old
  clear m1 m2 m3 o1 z1 b1 BB O4 O5 B1 old
  go_wp2_with fail
  rw [show (k0:Int)+((x.control.term.data.length:Int)+(cntL cntC x.control.term.kids:Nat))+(x.control.env.length:Nat)=((k0+(x.control.term.data.length+cntL cntC x.control.term.kids)+x.control.env.length:Nat):Int) from by omega]
  refine (markFrameS_q A4 n4 c4 (k0+(x.control.term.data.length+cntL cntC x.control.term.kids)+x.control.env.length) x.stack x4 w1 HO4.out N1.out.2.1 (by omega) (by omega)).mono ?_
  rintro e w2 ⟨rfl,m4,o2⟩
  have hbk2:w.heap.size ∉ x4:=fun hin=>by have:=HLT.out w.heap.size (by simp [hin]); omega
  have B2:Blk w2 w.heap.size 84 #[.int .i64 x.control.term.kind,.int .i64 x.control.term.value,.slice A1 n1 c1,.slice A2 n2 c2,.slice A3 n3 c3,.slice A4 n4 c4,.slice A5 n5 c5]:=(o2.block _ hbk2).trans HBK.out
  have g00:=B2.cell
  have O5:OwAt thunkOw 6 w2 A5 n5 x.heap x5:=HO5.out.keep thunkOw_ok (fun j hj=>o2.block j (fun hin=>N0.out.2.2 j (by simp [hin]) j hj rfl))
  have M4:=Lib.hid m4
  have O2:=Lib.hid o2
  have HO52:=Lib.hid O5
  clear m4 o2 O5 B2 g0
  go_wp2_with fail
  rw [show (k0:Int)+((x.control.term.data.length:Int)+(cntL cntC x.control.term.kids:Nat))+(x.control.env.length:Nat)+(cntL cntF x.stack:Nat)=((k0+(x.control.term.data.length+cntL cntC x.control.term.kids)+x.control.env.length+cntL cntF x.stack:Nat):Int) from by omega]
  refine (markThunkS_q A5 n5 c5 (k0+(x.control.term.data.length+cntL cntC x.control.term.kids)+x.control.env.length+cntL cntF x.stack) x.heap x5 w2 HO52.out N0.out.2.1 (by omega) (by omega)).mono ?_
  rintro e w3 ⟨rfl,m5,o3⟩
  have M5:=Lib.hid m5
  have O3:=Lib.hid o3
  clear m5 o3
  go_wp2_with fail
  go_ret
  have nd:=N0.out
  have nd1:=N1.out
  have OO:Only (x1 ++ x2 ++ x3 ++ x4 ++ x5) wb w3:=((O1.out.mono (fun j hj=>List.mem_append_left _ (List.mem_append_left _ hj))).trans (O2.out.mono (fun j hj=>List.mem_append_left _ (List.mem_append_right _ hj)))).trans (O3.out.mono (fun j hj=>List.mem_append_right _ hj))
  have st :∀j,j∈x1 ++ x2 ++ x3→w3.heap[j]? = w1.heap[j]?:=fun j hj=>(O3.out.block j (fun hin=>nd.2.2 j (List.mem_append_left _ hj) j hin rfl)).trans (O2.out.block j (fun hin=>nd1.2.2 j hj j hin rfl))
  refine ⟨congrArg (fun z=>Ending.returned (Value.int .i64 z)) (by unfold cntN; omega),wb,HBB.out,OO.size.symm,OO.in_ HB.out,⟨_,x1 ++ x2 ++ x3 ++ x4 ++ x5,rfl,⟨A1,n1,c1,A2,n2,c2,A3,n3,c3,A4,n4,c4,A5,n5,c5,x1,x2,x3,x4,x5,rfl,⟨?_,r1⟩,⟨?_,r2⟩,⟨?_,r3⟩,⟨?_,r4⟩,⟨?_,r5⟩,rfl⟩,HN.out,HB.out⟩⟩
  · exact M1.out.keep intOw_ok (fun j hj=>st j (by simp [hj]))
  · exact M2.out.keep coreOw_ok (fun j hj=>st j (by simp [hj]))
  · exact M3.out.keep intOw_ok (fun j hj=>st j (by simp [hj]))
  · exact M4.out.keep frameOw_ok (fun j hj=>O3.out.block j (fun hin=>nd.2.2 j (by simp [hj]) j hin rfl))
  · exact M5.out
theorem markNeed_v (v:Value) (x:DNeed) (w:World) (k:Int) (lo hi:Nat) (h:OwT needOw w v x lo hi) (hh:hi≤w.heap.size) (hs:szNeed x≤1048576) (h0:0≤k) (hk:k≤16777216) :
    Calls Tryz.prog 30 #[v,.int .i64 k] w fun e w'=>∃m:Nat,e=.returned (.int .i64 (m:Int))∧∃wb,Below w.heap.size w wb∧wb.heap.size=w'.heap.size∧OnlyIn lo hi wb w':=by
  obtain ⟨k0,rfl⟩:=Int.eq_ofNat_of_zero_le h0
  exact (markNeed_q v x w k0 lo hi h hh hs (by omega)).mono fun e w' ⟨he,wb,h1,h2,h3,_⟩=>⟨_,he,wb,h1,h2,h3⟩
end
section
open Go.RowKit Go.ChangeShapes Go.WideShapes Go.Deep Go.WideMaps
def Opens {α:Type} (P:Program) (t:TypeId) (R:Rd α):Prop:=∀(H:Type) (enc:TypeId × Value→H) (W:World) (fuel:Nat) (cs:List Value) (x:DataW H × List MemPlace),
  DataW.trod enc P W 0 (fun _=>true) true fuel t cs=some x→∃d,R W W.heap.size cs d
theorem opens_int {P:Program} {t:TypeId} (ht:P.underlying t=some (.int .i64)):Opens P t intRd:=fun H enc W fuel cs x h=>by
  obtain ⟨n,hc,_,_⟩:=DataW.trod_int ht h
  exact ⟨n,hc⟩
theorem opens_bool {P:Program} {t:TypeId} (ht:P.underlying t=some .bool):Opens P t boolRd:=fun H enc W fuel cs x h=>by
  obtain ⟨n,hc,_⟩:=DataW.trod_bool ht h
  exact ⟨n,hc⟩
theorem spot_none {w:World} {a:Addr} {v:Value} (h:w.cell? a=some v):a.spot=none:=by
  unfold World.cell? at h
  split at h
  · cases hs:a.spot with
    |none=>rfl
    |some s=>simp [hs] at h
  · simp at h
theorem opens_slice {α:Type} {P:Program} {t e:TypeId} {R:Rd α} {sz:Nat} (ht:P.underlying t=some (.slice e)) (hsz:P.cellsOf e=sz) (hpos:0 < sz) (ok:RdOk R sz) (he:Opens P e R):Opens P t (slRd R sz):=fun H enc W fuel cs x h=>by
  rcases open_slice ht h with ⟨rfl,rfl⟩|⟨a,len,cap,m,n,D,Pl,rfl,hb,hl,hm,hmm,hx,hel⟩
  · exact ⟨[],none,0,0,rfl,SlAt.none_,Nat.le_refl _,Nat.zero_le _⟩
  · have hmc:len≤m:=by rw [hmm]; simp; omega
    have hel' :∀i,i < len→∃p:List Value × α,R W W.heap.size p.1 p.2∧∀j,j < sz→W.cell? (a.add (i * sz+j))=p.1[j]?:=fun i hi=>by
      obtain ⟨cs',hc,htr⟩:=hel i (by omega)
      obtain ⟨d,hd⟩:=he H enc W n cs' (D i,Pl i) htr
      obtain ⟨_,hlen,hat⟩:=World.cells?_some hc
      exact ⟨(cs',d),hd,fun j hj=>by
        have:=hat j (by rw [hsz]; exact hj)
        rw [hsz,Go.Deep.add_add] at this
        exact this⟩
    rcases Nat.eq_zero_or_pos len with h0|h0
    · subst h0
      exact ⟨[],some a,0,cap,rfl,SlAt.none_,Nat.zero_le _,hm⟩
    · have hne:Nonempty (List Value × α):=let ⟨p,_⟩:=hel' 0 h0; ⟨p⟩
      have hf :∃f:Nat→List Value × α,∀i,i < len→R W W.heap.size (f i).1 (f i).2∧∀j,j < sz→W.cell? (a.add (i * sz+j))=(f i).1[j]?:=by
        classical
        refine ⟨fun i=>if hi:i < len then Classical.choose (hel' i hi) else Classical.choice hne,fun i hi=>?_⟩
        simp only [dif_pos hi]
        exact Classical.choose_spec (hel' i hi)
      obtain ⟨f,hf⟩:=hf
      have hc0 :∃v,W.cell? a=some v:=by
        obtain ⟨hR,hc⟩:=hf 0 h0
        have hlR:=ok.len hR
        have h1:=hc 0 hpos
        have h2:a.add (0 * sz+0)=a:=by simp [Addr.add]
        rw [h2,List.getElem?_eq_getElem (by omega)] at h1
        exact ⟨_,h1⟩
      obtain ⟨v0,hv0⟩:=hc0
      have hsp:=spot_none hv0
      have hbl:=World.block_lt_of_cell? _ _ hv0
      have ea:a=⟨a.block,a.off,none⟩:=by cases a; simp_all
      refine ⟨(List.range len).map fun i=>(f i).2,some a,len,cap,rfl,⟨by simp,fun _=>⟨a.block,a.off,by rw [← ea],hbl,fun i x hx=>?_⟩⟩,hl,hm⟩
      have hi:i < len:=by simpa using lt_of_some hx
      have hx':(f i).2=x:=by simpa [hi] using hx
      subst hx'
      obtain ⟨hR,hc⟩:=hf i hi
      refine ⟨_,hR,fun j v hj=>?_⟩
      have hj':j < sz:=by have:=lt_of_some hj; rw [ok.len hR] at this; exact this
      have h1:=hc j hj'
      rw [hj] at h1
      have e2:a.add (i * sz+j)=⟨a.block,a.off+i * sz+j,none⟩:=by
        rw [ea]; simp only [Addr.add_lit]; congr 1; omega
      rw [← e2]
      exact h1
/-- An argument's value as its cells. -/
theorem opens_arg {α:Type} {P:Program} {t:TypeId} {R:Rd α} (h:Opens P t R) {H:Type} {enc:TypeId × Value→H} {W:World} {v:Value} {d:DataW H} {ps:List MemPlace} (ht:DataW.Trod enc P W 0 (fun _=>true) true t v d ps) :∃x,R W W.heap.size v.cells.toList x:=by
  obtain ⟨fuel,hf⟩:=ht
  exact h H enc W fuel _ _ hf
end
section
open Go.RowKit Go.ChangeShapes Go.WideShapes Go.Deep Go.WideMaps
theorem trod_fields {P:Program} {t:TypeId} {fs:Array Field} {H:Type} {enc:TypeId × Value→H} {W:World} {fuel:Nat} {cs:List Value} {x:DataW H × List MemPlace} (ht:P.underlying t=some (.struct fs)) (h:DataW.trod enc P W 0 (fun _=>true) true fuel t cs=some x) :
    cs.length=P.cellsOf t∧∃n,∀(i:Nat) (f:Field),fs[i]? = some f→∃y,DataW.trod enc P W 0 (fun _=>true) true n f.type ((cs.drop f.offset).take (P.cellsOf f.type))=some y:=by
  obtain ⟨xs,n,_,_,hl,hlen,hf⟩:=DataW.trod_struct ht h
  refine ⟨hl,n,fun i f hi=>?_⟩
  have hlt:i < fs.size:=(Array.getElem?_eq_some_iff.1 hi).1
  exact ⟨xs[i],by rw [hf i f hi]; exact List.getElem?_eq_getElem (by omega)⟩
/-- A struct argument. -/
theorem open_st {α:Type} {P:Program} {t:TypeId} {fs:Array Field} {R:Rd α} (h:Opens P t R) (ht:P.underlying t=some (.struct fs)) {r:Reach} {b0:Nat} {H:Type} {enc:TypeId × Value→H} {W:World} {v:Value} {d:DataW H} {ps:List MemPlace}
    (hv:Value.okWide P W r b0 t v) (hd:DataW.Trod enc P W 0 (fun _=>true) true t v d ps) :∃x,RdT R W W.heap.size v x:=by
  obtain ⟨cs,rfl,_⟩:=okWide_struct ht hv
  obtain ⟨x,hx⟩:=opens_arg h hd
  exact ⟨x,cs.toList,by simp,by simpa [Value.cells] using hx⟩
end
section
open Go.RowKit Go.ChangeShapes Go.WideShapes Go.Deep Go.WideMaps
/-- Opened, up to a fuel. -/
def OpensL {α:Type} (m:Nat) (P:Program) (t:TypeId) (R:Rd α):Prop:=∀(H:Type) (enc:TypeId × Value→H) (W:World) (fuel:Nat) (cs:List Value) (x:DataW H × List MemPlace),fuel≤m→
  DataW.trod enc P W 0 (fun _=>true) true fuel t cs=some x→∃d,R W W.heap.size cs d
theorem opensL_all {α:Type} {P:Program} {t:TypeId} {R:Rd α} (h :∀m,OpensL m P t R):Opens P t R:=fun H enc W fuel cs x hx=>h fuel H enc W fuel cs x (Nat.le_refl _) hx
/-- Elements of a slice, whose own elements lie deeper. -/
theorem opensL_slice {α:Type} {m:Nat} {P:Program} {t e:TypeId} {R:Rd α} {sz:Nat} (ht:P.underlying t=some (.slice e)) (hsz:P.cellsOf e=sz) (hpos:0 < sz) (ok:RdOk R sz) (he:OpensL m P e R):OpensL m P t (slRd R sz):=fun H enc W fuel cs x hf h=>by
  rcases DataW.trod_slice ht h with ⟨rfl,rfl⟩|⟨a,len,cap,elems,rest,n,hfn,rfl,hx,hb,hl,hm,hlen,hel,_,_⟩
  · exact ⟨[],none,0,0,rfl,SlAt.none_,Nat.le_refl _,Nat.zero_le _⟩
  · have hel' :∀i,i < len→∃p:List Value × α,R W W.heap.size p.1 p.2∧∀j,j < sz→W.cell? (a.add (i * sz+j))=p.1[j]?:=fun i hi=>by
      have key:=hel i hi
      rw [List.getElem?_eq_getElem (by omega)] at key
      obtain ⟨cs',hc,htr⟩:=Option.bind_eq_some_iff.1 key
      obtain ⟨d,hd⟩:=he H enc W n cs' _ (by omega) htr
      obtain ⟨_,hlen,hat⟩:=World.cells?_some hc
      exact ⟨(cs',d),hd,fun j hj=>by
        have:=hat j (by rw [hsz]; exact hj)
        rw [hsz,Go.Deep.add_add] at this
        exact this⟩
    rcases Nat.eq_zero_or_pos len with h0|h0
    · subst h0
      exact ⟨[],some a,0,cap,rfl,SlAt.none_,Nat.zero_le _,hm⟩
    · have hne:Nonempty (List Value × α):=let ⟨p,_⟩:=hel' 0 h0; ⟨p⟩
      have hf :∃f:Nat→List Value × α,∀i,i < len→R W W.heap.size (f i).1 (f i).2∧∀j,j < sz→W.cell? (a.add (i * sz+j))=(f i).1[j]?:=by
        classical
        refine ⟨fun i=>if hi:i < len then Classical.choose (hel' i hi) else Classical.choice hne,fun i hi=>?_⟩
        simp only [dif_pos hi]
        exact Classical.choose_spec (hel' i hi)
      obtain ⟨f,hf⟩:=hf
      have hc0 :∃v,W.cell? a=some v:=by
        obtain ⟨hR,hc⟩:=hf 0 h0
        have hlR:=ok.len hR
        have h1:=hc 0 hpos
        have h2:a.add (0 * sz+0)=a:=by simp [Addr.add]
        rw [h2,List.getElem?_eq_getElem (by omega)] at h1
        exact ⟨_,h1⟩
      obtain ⟨v0,hv0⟩:=hc0
      have hsp:=spot_none hv0
      have hbl:=World.block_lt_of_cell? _ _ hv0
      have ea:a=⟨a.block,a.off,none⟩:=by cases a; simp_all
      refine ⟨(List.range len).map fun i=>(f i).2,some a,len,cap,rfl,⟨by simp,fun _=>⟨a.block,a.off,by rw [← ea],hbl,fun i x hx=>?_⟩⟩,hl,hm⟩
      have hi:i < len:=by simpa using lt_of_some hx
      have hx':(f i).2=x:=by simpa [hi] using hx
      subst hx'
      obtain ⟨hR,hc⟩:=hf i hi
      refine ⟨_,hR,fun j v hj=>?_⟩
      have hj':j < sz:=by have:=lt_of_some hj; rw [ok.len hR] at this; exact this
      have h1:=hc j hj'
      rw [hj] at h1
      have e2:a.add (i * sz+j)=⟨a.block,a.off+i * sz+j,none⟩:=by
        rw [ea]; simp only [Addr.add_lit]; congr 1; omega
      rw [← e2]
      exact h1
/-- Fields, with less fuel. -/
theorem trodL_fields {P:Program} {t:TypeId} {fs:Array Field} {H:Type} {enc:TypeId × Value→H} {W:World} {fuel:Nat} {cs:List Value} {x:DataW H × List MemPlace} (ht:P.underlying t=some (.struct fs)) (h:DataW.trod enc P W 0 (fun _=>true) true fuel t cs=some x) :
    cs.length=P.cellsOf t∧∃n,fuel=n+1∧∀(i:Nat) (f:Field),fs[i]? = some f→∃y,DataW.trod enc P W 0 (fun _=>true) true n f.type ((cs.drop f.offset).take (P.cellsOf f.type))=some y:=by
  obtain ⟨xs,n,hn,_,hl,hlen,hf⟩:=DataW.trod_struct ht h
  refine ⟨hl,n,hn,fun i f hi=>?_⟩
  have hlt:i < fs.size:=(Array.getElem?_eq_some_iff.1 hi).1
  exact ⟨xs[i],by rw [hf i f hi]; exact List.getElem?_eq_getElem (by omega)⟩
end
section
open Go.RowKit Go.ChangeShapes Go.WideShapes Go.Deep Go.WideMaps
theorem lenN1 {α:Type} {l:List α} (h:l.length=1) :∃a0,l=[a0]:=by
  match l,h with
  |[a0],_=>exact ⟨a0,rfl⟩
theorem lenN4 {α:Type} {l:List α} (h:l.length=4) :∃a0 a1 a2 a3,l=[a0,a1,a2,a3]:=by
  match l,h with
  |[a0,a1,a2,a3],_=>exact ⟨a0,a1,a2,a3,rfl⟩
theorem lenN5 {α:Type} {l:List α} (h:l.length=5) :∃a0 a1 a2 a3 a4,l=[a0,a1,a2,a3,a4]:=by
  match l,h with
  |[a0,a1,a2,a3,a4],_=>exact ⟨a0,a1,a2,a3,a4,rfl⟩
theorem lenN6 {α:Type} {l:List α} (h:l.length=6) :∃a0 a1 a2 a3 a4 a5,l=[a0,a1,a2,a3,a4,a5]:=by
  match l,h with
  |[a0,a1,a2,a3,a4,a5],_=>exact ⟨a0,a1,a2,a3,a4,a5,rfl⟩
theorem lenN7 {α:Type} {l:List α} (h:l.length=7) :∃a0 a1 a2 a3 a4 a5 a6,l=[a0,a1,a2,a3,a4,a5,a6]:=by
  match l,h with
  |[a0,a1,a2,a3,a4,a5,a6],_=>exact ⟨a0,a1,a2,a3,a4,a5,a6,rfl⟩
theorem lenN8 {α:Type} {l:List α} (h:l.length=8) :∃a0 a1 a2 a3 a4 a5 a6 a7,l=[a0,a1,a2,a3,a4,a5,a6,a7]:=by
  match l,h with
  |[a0,a1,a2,a3,a4,a5,a6,a7],_=>exact ⟨a0,a1,a2,a3,a4,a5,a6,a7,rfl⟩
theorem opens_CoreL :∀m,OpensL m Tryz.prog 62 coreRd:=fun m=>by
  induction m with
  |zero=>
    intro H enc W fuel cs x hf h
    obtain rfl:fuel=0:=by omega
    simp [DataW.trod] at h
  |succ m ih=>
    intro H enc W fuel cs x hfu h
    obtain ⟨hl,n,hfn,hf⟩:=trodL_fields Tryz.underlying62 h
    replace hl:cs.length=4:=hl.trans (by kernel_rfl)
    obtain ⟨a0,a1,a2,a3,rfl⟩:=lenN4 hl
    obtain ⟨y0,h0⟩ :∃y,DataW.trod enc Tryz.prog W 0 (fun _=>true) true n 2 (([a0,a1,a2,a3].drop 0).take (Tryz.prog.cellsOf 2))=some y:=hf 0 _ rfl
    have k0:Tryz.prog.cellsOf 2=1:=by kernel_rfl
    rw [k0] at h0; simp only [List.drop_zero,List.drop_succ_cons,List.take_succ_cons,List.take_zero] at h0
    obtain ⟨d0,e0⟩:=opens_int Tryz.underlying2 H enc W _ _ _ h0
    unfold intRd at e0; simp only [List.cons.injEq,and_true] at e0
    obtain ⟨y1,h1⟩ :∃y,DataW.trod enc Tryz.prog W 0 (fun _=>true) true n 2 (([a0,a1,a2,a3].drop 1).take (Tryz.prog.cellsOf 2))=some y:=hf 1 _ rfl
    have k1:Tryz.prog.cellsOf 2=1:=by kernel_rfl
    rw [k1] at h1; simp only [List.drop_zero,List.drop_succ_cons,List.take_succ_cons,List.take_zero] at h1
    obtain ⟨d1,e1⟩:=opens_int Tryz.underlying2 H enc W _ _ _ h1
    unfold intRd at e1; simp only [List.cons.injEq,and_true] at e1
    obtain ⟨y2,h2⟩ :∃y,DataW.trod enc Tryz.prog W 0 (fun _=>true) true n 60 (([a0,a1,a2,a3].drop 2).take (Tryz.prog.cellsOf 60))=some y:=hf 2 _ rfl
    have k2:Tryz.prog.cellsOf 60=1:=by kernel_rfl
    rw [k2] at h2; simp only [List.drop_zero,List.drop_succ_cons,List.take_succ_cons,List.take_zero] at h2
    obtain ⟨d2,A2,n2,c2,e2,g2,r2⟩:=opens_slice Tryz.underlying60 (by kernel_rfl) (by decide) intRd_ok (opens_int Tryz.underlying2) H enc W _ _ _ h2
    simp only [List.cons.injEq,and_true] at e2
    obtain ⟨y3,h3⟩ :∃y,DataW.trod enc Tryz.prog W 0 (fun _=>true) true n 57 (([a0,a1,a2,a3].drop 3).take (Tryz.prog.cellsOf 57))=some y:=hf 3 _ rfl
    have k3:Tryz.prog.cellsOf 57=1:=by kernel_rfl
    rw [k3] at h3; simp only [List.drop_zero,List.drop_succ_cons,List.take_succ_cons,List.take_zero] at h3
    obtain ⟨d3,A3,n3,c3,e3,g3,r3⟩:=opensL_slice Tryz.underlying57 (by kernel_rfl) (by decide) coreRd_ok ih H enc W n _ _ (by omega) h3
    simp only [List.cons.injEq,and_true] at e3
    subst e0
    subst e1
    subst e2
    subst e3
    exact ⟨⟨d0,d1,d2,d3⟩,coreRd_in ⟨A2,n2,c2,A3,n3,c3,rfl,⟨g2,r2⟩,⟨g3,r3⟩⟩⟩
theorem opens_Core:Opens Tryz.prog 62 coreRd:=opensL_all opens_CoreL
theorem opens_Book:Opens Tryz.prog 59 bookRd:=fun H enc W fuel cs x h=>by
  obtain ⟨hl,m,hf⟩:=trod_fields Tryz.underlying59 h
  replace hl:cs.length=1:=hl.trans (by kernel_rfl)
  obtain ⟨a0,rfl⟩:=lenN1 hl
  obtain ⟨y0,h0⟩ :∃y,DataW.trod enc Tryz.prog W 0 (fun _=>true) true m 57 (([a0].drop 0).take (Tryz.prog.cellsOf 57))=some y:=hf 0 _ rfl
  have k0:Tryz.prog.cellsOf 57=1:=by kernel_rfl
  rw [k0] at h0; simp only [List.drop_zero,List.drop_succ_cons,List.take_succ_cons,List.take_zero] at h0
  obtain ⟨d0,A0,n0,c0,e0,g0,r0⟩:=opens_slice Tryz.underlying57 (by kernel_rfl) (by decide) coreRd_ok opens_Core H enc W _ _ _ h0
  simp only [List.cons.injEq,and_true] at e0
  subst e0
  exact ⟨⟨d0⟩,A0,n0,c0,rfl,⟨g0,r0⟩⟩
theorem opens_Closure:Opens Tryz.prog 64 closureRd:=fun H enc W fuel cs x h=>by
  obtain ⟨hl,m,hf⟩:=trod_fields Tryz.underlying64 h
  replace hl:cs.length=5:=hl.trans (by kernel_rfl)
  obtain ⟨a0,a1,a2,a3,a4,rfl⟩:=lenN5 hl
  obtain ⟨y0,h0⟩ :∃y,DataW.trod enc Tryz.prog W 0 (fun _=>true) true m 62 (([a0,a1,a2,a3,a4].drop 0).take (Tryz.prog.cellsOf 62))=some y:=hf 0 _ rfl
  have k0:Tryz.prog.cellsOf 62=4:=by kernel_rfl
  rw [k0] at h0; simp only [List.drop_zero,List.drop_succ_cons,List.take_succ_cons,List.take_zero] at h0
  obtain ⟨d0,R0⟩:=opens_Core H enc W _ _ _ h0
  obtain ⟨A0a,n0a,c0a,A0b,n0b,c0b,e0,g0a,g0b⟩:=coreRd_out R0
  simp only [List.cons.injEq,and_true] at e0
  obtain ⟨y1,h1⟩ :∃y,DataW.trod enc Tryz.prog W 0 (fun _=>true) true m 60 (([a0,a1,a2,a3,a4].drop 4).take (Tryz.prog.cellsOf 60))=some y:=hf 1 _ rfl
  have k1:Tryz.prog.cellsOf 60=1:=by kernel_rfl
  rw [k1] at h1; simp only [List.drop_zero,List.drop_succ_cons,List.take_succ_cons,List.take_zero] at h1
  obtain ⟨d1,A1,n1,c1,e1,g1,r1⟩:=opens_slice Tryz.underlying60 (by kernel_rfl) (by decide) intRd_ok (opens_int Tryz.underlying2) H enc W _ _ _ h1
  simp only [List.cons.injEq,and_true] at e1
  obtain ⟨rfl,rfl,rfl,rfl⟩:=e0
  subst e1
  exact ⟨⟨d0,d1⟩,A0a,n0a,c0a,A0b,n0b,c0b,A1,n1,c1,rfl,g0a,g0b,⟨g1,r1⟩⟩
theorem opens_Frame:Opens Tryz.prog 188 frameRd:=fun H enc W fuel cs x h=>by
  obtain ⟨hl,m,hf⟩:=trod_fields Tryz.underlying188 h
  replace hl:cs.length=8:=hl.trans (by kernel_rfl)
  obtain ⟨a0,a1,a2,a3,a4,a5,a6,a7,rfl⟩:=lenN8 hl
  obtain ⟨y0,h0⟩ :∃y,DataW.trod enc Tryz.prog W 0 (fun _=>true) true m 2 (([a0,a1,a2,a3,a4,a5,a6,a7].drop 0).take (Tryz.prog.cellsOf 2))=some y:=hf 0 _ rfl
  have k0:Tryz.prog.cellsOf 2=1:=by kernel_rfl
  rw [k0] at h0; simp only [List.drop_zero,List.drop_succ_cons,List.take_succ_cons,List.take_zero] at h0
  obtain ⟨d0,e0⟩:=opens_int Tryz.underlying2 H enc W _ _ _ h0
  unfold intRd at e0; simp only [List.cons.injEq,and_true] at e0
  obtain ⟨y1,h1⟩ :∃y,DataW.trod enc Tryz.prog W 0 (fun _=>true) true m 2 (([a0,a1,a2,a3,a4,a5,a6,a7].drop 1).take (Tryz.prog.cellsOf 2))=some y:=hf 1 _ rfl
  have k1:Tryz.prog.cellsOf 2=1:=by kernel_rfl
  rw [k1] at h1; simp only [List.drop_zero,List.drop_succ_cons,List.take_succ_cons,List.take_zero] at h1
  obtain ⟨d1,e1⟩:=opens_int Tryz.underlying2 H enc W _ _ _ h1
  unfold intRd at e1; simp only [List.cons.injEq,and_true] at e1
  obtain ⟨y2,h2⟩ :∃y,DataW.trod enc Tryz.prog W 0 (fun _=>true) true m 60 (([a0,a1,a2,a3,a4,a5,a6,a7].drop 2).take (Tryz.prog.cellsOf 60))=some y:=hf 2 _ rfl
  have k2:Tryz.prog.cellsOf 60=1:=by kernel_rfl
  rw [k2] at h2; simp only [List.drop_zero,List.drop_succ_cons,List.take_succ_cons,List.take_zero] at h2
  obtain ⟨d2,A2,n2,c2,e2,g2,r2⟩:=opens_slice Tryz.underlying60 (by kernel_rfl) (by decide) intRd_ok (opens_int Tryz.underlying2) H enc W _ _ _ h2
  simp only [List.cons.injEq,and_true] at e2
  obtain ⟨y3,h3⟩ :∃y,DataW.trod enc Tryz.prog W 0 (fun _=>true) true m 64 (([a0,a1,a2,a3,a4,a5,a6,a7].drop 3).take (Tryz.prog.cellsOf 64))=some y:=hf 3 _ rfl
  have k3:Tryz.prog.cellsOf 64=5:=by kernel_rfl
  rw [k3] at h3; simp only [List.drop_zero,List.drop_succ_cons,List.take_succ_cons,List.take_zero] at h3
  obtain ⟨d3,A3a,n3a,c3a,A3b,n3b,c3b,A3c,n3c,c3c,e3,g3a,g3b,g3c⟩:=opens_Closure H enc W _ _ _ h3
  simp only [List.cons.injEq,and_true] at e3
  subst e0
  subst e1
  subst e2
  obtain ⟨rfl,rfl,rfl,rfl,rfl⟩:=e3
  exact ⟨⟨d0,d1,d2,d3⟩,A2,n2,c2,A3a,n3a,c3a,A3b,n3b,c3b,A3c,n3c,c3c,rfl,⟨g2,r2⟩,g3a,g3b,g3c⟩
theorem opens_Thunk:Opens Tryz.prog 191 thunkRd:=fun H enc W fuel cs x h=>by
  obtain ⟨hl,m,hf⟩:=trod_fields Tryz.underlying191 h
  replace hl:cs.length=6:=hl.trans (by kernel_rfl)
  obtain ⟨a0,a1,a2,a3,a4,a5,rfl⟩:=lenN6 hl
  obtain ⟨y0,h0⟩ :∃y,DataW.trod enc Tryz.prog W 0 (fun _=>true) true m 4 (([a0,a1,a2,a3,a4,a5].drop 0).take (Tryz.prog.cellsOf 4))=some y:=hf 0 _ rfl
  have k0:Tryz.prog.cellsOf 4=1:=by kernel_rfl
  rw [k0] at h0; simp only [List.drop_zero,List.drop_succ_cons,List.take_succ_cons,List.take_zero] at h0
  obtain ⟨d0,e0⟩:=opens_bool Tryz.underlying4 H enc W _ _ _ h0
  unfold boolRd at e0; simp only [List.cons.injEq,and_true] at e0
  obtain ⟨y1,h1⟩ :∃y,DataW.trod enc Tryz.prog W 0 (fun _=>true) true m 64 (([a0,a1,a2,a3,a4,a5].drop 1).take (Tryz.prog.cellsOf 64))=some y:=hf 1 _ rfl
  have k1:Tryz.prog.cellsOf 64=5:=by kernel_rfl
  rw [k1] at h1; simp only [List.drop_zero,List.drop_succ_cons,List.take_succ_cons,List.take_zero] at h1
  obtain ⟨d1,A1a,n1a,c1a,A1b,n1b,c1b,A1c,n1c,c1c,e1,g1a,g1b,g1c⟩:=opens_Closure H enc W _ _ _ h1
  simp only [List.cons.injEq,and_true] at e1
  subst e0
  obtain ⟨rfl,rfl,rfl,rfl,rfl⟩:=e1
  exact ⟨⟨d0,d1⟩,A1a,n1a,c1a,A1b,n1b,c1b,A1c,n1c,c1c,rfl,g1a,g1b,g1c⟩
theorem opens_Need:Opens Tryz.prog 68 needRd:=fun H enc W fuel cs x h=>by
  obtain ⟨hl,m,hf⟩:=trod_fields Tryz.underlying68 h
  replace hl:cs.length=7:=hl.trans (by kernel_rfl)
  obtain ⟨a0,a1,a2,a3,a4,a5,a6,rfl⟩:=lenN7 hl
  obtain ⟨y0,h0⟩ :∃y,DataW.trod enc Tryz.prog W 0 (fun _=>true) true m 64 (([a0,a1,a2,a3,a4,a5,a6].drop 0).take (Tryz.prog.cellsOf 64))=some y:=hf 0 _ rfl
  have k0:Tryz.prog.cellsOf 64=5:=by kernel_rfl
  rw [k0] at h0; simp only [List.drop_zero,List.drop_succ_cons,List.take_succ_cons,List.take_zero] at h0
  obtain ⟨d0,A0a,n0a,c0a,A0b,n0b,c0b,A0c,n0c,c0c,e0,g0a,g0b,g0c⟩:=opens_Closure H enc W _ _ _ h0
  simp only [List.cons.injEq,and_true] at e0
  obtain ⟨y1,h1⟩ :∃y,DataW.trod enc Tryz.prog W 0 (fun _=>true) true m 65 (([a0,a1,a2,a3,a4,a5,a6].drop 5).take (Tryz.prog.cellsOf 65))=some y:=hf 1 _ rfl
  have k1:Tryz.prog.cellsOf 65=1:=by kernel_rfl
  rw [k1] at h1; simp only [List.drop_zero,List.drop_succ_cons,List.take_succ_cons,List.take_zero] at h1
  obtain ⟨d1,A1,n1,c1,e1,g1,r1⟩:=opens_slice Tryz.underlying65 (by kernel_rfl) (by decide) frameRd_ok opens_Frame H enc W _ _ _ h1
  simp only [List.cons.injEq,and_true] at e1
  obtain ⟨y2,h2⟩ :∃y,DataW.trod enc Tryz.prog W 0 (fun _=>true) true m 66 (([a0,a1,a2,a3,a4,a5,a6].drop 6).take (Tryz.prog.cellsOf 66))=some y:=hf 2 _ rfl
  have k2:Tryz.prog.cellsOf 66=1:=by kernel_rfl
  rw [k2] at h2; simp only [List.drop_zero,List.drop_succ_cons,List.take_succ_cons,List.take_zero] at h2
  obtain ⟨d2,A2,n2,c2,e2,g2,r2⟩:=opens_slice Tryz.underlying66 (by kernel_rfl) (by decide) thunkRd_ok opens_Thunk H enc W _ _ _ h2
  simp only [List.cons.injEq,and_true] at e2
  obtain ⟨rfl,rfl,rfl,rfl,rfl⟩:=e0
  subst e1
  subst e2
  exact ⟨⟨d0,d1,d2⟩,A0a,n0a,c0a,A0b,n0b,c0b,A0c,n0c,c0c,A1,n1,c1,A2,n2,c2,rfl,g0a,g0b,g0c,⟨g1,r1⟩,⟨g2,r2⟩⟩
end
section
open Go.RowKit
theorem ownBk {e:TypeId} {w:World} {lo:Nat} {v:Value} {d:DBook} {bs:List Nat} (h:OwN e coreOw 4 w lo v d.defs bs):OwT bookOw w (.agg #[v]) d lo w.heap.size:=by
  obtain ⟨A,n,c,l,rfl,h1,h2,h3,r⟩:=h.own1 coreOw_ok
  exact ⟨[.slice A n c],l,rfl,⟨A,n,c,l,rfl,⟨h1,r⟩,rfl⟩,h2,fun b hb=>⟨h.lo_ b (h3 b hb),h.hi b (h3 b hb)⟩⟩
theorem ownNe {e0 e1 e3 e4:TypeId} {w:World} {lo:Nat} {v0 v1 v2 v3 v4:Value} {d:DNeed} {bs1 bs3 bs4:List Nat} (h0:OwF e0 encI 1 w lo v0 d.control.term.data) (h1:OwN e1 coreOw 4 w lo v1 d.control.term.kids bs1) (h2:OwF e0 encI 1 w lo v2 d.control.env) (h3:OwN e3 frameOw 8 w lo v3 d.stack bs3) (h4:OwN e4 thunkOw 6 w lo v4 d.heap bs4)
    (a1:Ap (fb v0) bs1) (a2:Dj v0 v2) (a3:Ap bs1 (fb v2)) (a4:Ap (fb v0) bs3) (a5:Ap bs1 bs3) (a6:Ap (fb v2) bs3) (a7:Ap (fb v0) bs4) (a8:Ap bs1 bs4) (a9:Ap (fb v2) bs4) (a10:Ap bs3 bs4):OwT needOw w (.agg #[.int .i64 d.control.term.kind,.int .i64 d.control.term.value,v0,v1,v2,v3,v4]) d lo w.heap.size:=by
  obtain ⟨A0,c0,hv0⟩:=OwF.form h0
  subst hv0
  obtain ⟨l0,g0,n0,s0,r0⟩:=OwF.own2 fI h0
  obtain ⟨A1,k1,c1,l1,rfl,g1,n1,s1,r1⟩:=h1.own1 coreOw_ok
  obtain ⟨A2,c2,hv2⟩:=OwF.form h2
  subst hv2
  obtain ⟨l2,g2,n2,s2,r2⟩:=OwF.own2 fI h2
  obtain ⟨A3,k3,c3,l3,rfl,g3,n3,s3,r3⟩:=h3.own1 frameOw_ok
  obtain ⟨A4,k4,c4,l4,rfl,g4,n4,s4,r4⟩:=h4.own1 thunkOw_ok
  have m01:=nodup2 n0 n1 s0 s1 a1
  have t01:=sub2 s0 s1
  have m02:=nodup2 m01 n2 t01 s2 (Ap.append (Dj.ap a2) a3)
  have t02:=sub2 t01 s2
  have m03:=nodup2 m02 n3 t02 s3 (Ap.append (Ap.append a4 a5) a6)
  have t03:=sub2 t02 s3
  have m04:=nodup2 m03 n4 t03 s4 (Ap.append (Ap.append (Ap.append a7 a8) a9) a10)
  refine ⟨_,l0 ++ l1 ++ l2 ++ l3 ++ l4,rfl,⟨_,_,_,_,_,_,_,_,_,_,_,_,_,_,_,l0,l1,l2,l3,l4,rfl,⟨g0,r0⟩,⟨g1,r1⟩,⟨g2,r2⟩,⟨g3,r3⟩,⟨g4,r4⟩,rfl⟩,m04,fun b hb=>?_⟩
  simp only [List.mem_append] at hb
  rcases hb with (((hb|hb)|hb)|hb)|hb
  · exact h0.lt b (mem_fb.1 (s0 b hb))
  · exact ⟨h1.lo_ b (s1 b hb),h1.hi b (s1 b hb)⟩
  · exact h2.lt b (mem_fb.1 (s2 b hb))
  · exact ⟨h3.lo_ b (s3 b hb),h3.hi b (s3 b hb)⟩
  · exact ⟨h4.lo_ b (s4 b hb),h4.hi b (s4 b hb)⟩
theorem szBook_v (v:Value) (x:DBook) (left:Int) (w:World) {B:Nat} (h:RdT bookRd w B v x) (hB:B≤w.heap.size) (h0:0≤left) (h1:left≤1048576) :
    Calls Tryz.prog 20 #[v,.int .i64 left] w fun e w'=>e=.returned (.int .i64 (szL left (szBook x)))∧Below w.heap.size w w':=
  c_m_laws_szBook x left _ (p_szBook x left (by obtain ⟨cs,_,hR⟩:=h; exact bookRd_ok2 hR) h0 h1) v w (h.more bookRd_ok hB)
theorem szNeed_v (v:Value) (x:DNeed) (left:Int) (w:World) {B:Nat} (h:RdT needRd w B v x) (hB:B≤w.heap.size) (h0:0≤left) (h1:left≤1048576) :
    Calls Tryz.prog 21 #[v,.int .i64 left] w fun e w'=>e=.returned (.int .i64 (szL left (szNeed x)))∧Below w.heap.size w w':=
  c_m_laws_szNeed x left _ (p_szNeed x left (by obtain ⟨cs,_,hR⟩:=h; exact needRd_ok2 hR) h0 h1) v w (h.more needRd_ok hB)
theorem toBook_v (v:Value) (x:DBook) (w:World) {B:Nat} (h:RdT bookRd w B v x) (hB:B≤w.heap.size) (hs:szBook x≤1048576) :
    Calls Tryz.prog 23 #[v] w fun e w'=>Ret1 (fun v'=>OwT bookOw w' v' x w.heap.size w'.heap.size) e∧Below w.heap.size w w':=
  (c_m_laws_toBook x _ (p_toBook x hs) v w (h.more bookRd_ok hB)).mono fun e w' ⟨⟨v0,bs0,he,h1⟩,hb⟩=>⟨⟨_,he,ownBk h1⟩,hb⟩
theorem toNeed_v (v:Value) (x:DNeed) (w:World) {B:Nat} (h:RdT needRd w B v x) (hB:B≤w.heap.size) (hs:szNeed x≤1048576) :
    Calls Tryz.prog 24 #[v] w fun e w'=>Ret1 (fun v'=>OwT needOw w' v' x w.heap.size w'.heap.size) e∧Below w.heap.size w w':=
  (c_m_laws_toNeed x _ (p_toNeed x hs) v w (h.more needRd_ok hB)).mono fun e w' ⟨⟨v0,v1,bs1,v2,v3,bs3,v4,bs4,he,h0,h1,h2,h3,h4,a1,a2,a3,a4,a5,a6,a7,a8,a9,a10⟩,hb⟩=>⟨⟨_,he,ownNe h0 h1 h2 h3 h4 a1 a2 a3 a4 a5 a6 a7 a8 a9 a10⟩,hb⟩
theorem eqBook_v (v u:Value) (x y:DBook) (w:World) {B B':Nat} (h:RdT bookRd w B v x) (h':RdT bookRd w B' u y) (hB:B≤w.heap.size) (hB':B'≤w.heap.size) :
    Calls Tryz.prog 27 #[v,u] w fun e w'=>e=.returned (.bool (decide (x=y)))∧Below w.heap.size w w':=
  c_m_laws_eqBook x y _ (p_eqBook x y) v u w (h.more bookRd_ok hB) (h'.more bookRd_ok hB')
theorem eqNeed_v (v u:Value) (x y:DNeed) (w:World) {B B':Nat} (h:RdT needRd w B v x) (h':RdT needRd w B' u y) (hB:B≤w.heap.size) (hB':B'≤w.heap.size) :
    Calls Tryz.prog 28 #[v,u] w fun e w'=>e=.returned (.bool (decide (x=y)))∧Below w.heap.size w w':=
  c_m_laws_eqNeed x y _ (p_eqNeed x y) v u w (h.more needRd_ok hB) (h'.more needRd_ok hB')
set_option maxHeartbeats 4000000 in
theorem markBook_m (v:Value) (x:DBook) (w:World) (k:Int) (lo hi m:Nat) (em:m=k.toNat+cntL cntC x.defs) (h:OwT bookOw w v x lo hi) (hh:hi≤w.heap.size) (hs:szBook x≤1048576) (h0:0≤k) (hk:k≤1048576) :
    Calls Tryz.prog 29 #[v,.int .i64 k] w fun e w'=>e=.returned (.int .i64 (m:Int))∧∃wb,Below w.heap.size w wb∧wb.heap.size=w'.heap.size∧OnlyIn lo hi wb w':=by
  subst em
  obtain ⟨cs,bs,rfl,⟨A1,n1,c1,b1,rfl,⟨h1,r1⟩,rfl⟩,hnd,hb⟩:=h
  obtain ⟨k0,rfl⟩:=Int.eq_ofNat_of_zero_le h0
  have hA :∀o1,Below w.heap.size w (w.alloc o1):=fun o1=>(Below.refl _ _).alloc (Nat.le_refl _) _
  have HK:=Lib.hid (show∀o1,OwAt coreOw 4 (w.alloc o1) A1 n1 x.defs bs from fun o1=>h1.keep coreOw_ok (fun j hj=>(hA o1).block j (by have:=hb j hj; omega)))
  have HN:=Lib.hid hnd
  have HB:=Lib.hid hb
  have hcl:=core_cnt x.defs
  have hsz:szBook x=szCoreS x.defs:=rfl
  clear h1 hb hnd
  go_enter Tryz.func29,Tryz.ntmps29
  go_wp2_with fail
  refine (markCoreS_q _ A1 n1 c1 k0 x.defs bs _ (Nat.le_refl _) (HK.out _) HN.out (by omega) (by omega)).mono ?_
  rintro e w1 ⟨rfl,_,o1⟩
  have O1:=Lib.hid o1
  clear o1
  go_wp2_with fail
  go_ret
  exact ⟨rfl,_,hA _,O1.out.size.symm,O1.out.in_ HB.out⟩
theorem book_cnt {x:DBook} (h:szBook x≤1048576):cntL cntC x.defs≤2097152:=by
  have hcl:=core_cnt x.defs
  have hsz:szBook x=szCoreS x.defs:=rfl
  omega
theorem liveT_ok (b:DBook) (m:DNeed):lenOk (liveT b m).1:=by
  have:=liveT_len b m
  unfold lenOk
  omega
theorem specLiveThunks_v (v u:Value) (x:DBook) (y:DNeed) (w:World) {B B':Nat} (h:RdT bookRd w B v x) (h':RdT needRd w B' u y) (hB:B≤w.heap.size) (hB':B'≤w.heap.size) (hs:szBook x≤1048576) (hs':szNeed y≤1048576) :
    Calls Tryz.prog 22 #[v,u] w fun e w'=>(∃v',e=.returned (.tuple #[v',.int .i64 (liveT x y).2])∧OwS intOw 1 w' v' (liveT x y).1 w.heap.size w'.heap.size)∧Below w.heap.size w w':=
  (c_m_spec_LiveThunks x y _ (p_sLiveThunks x y (small_of hs hs')) v u w (h.more bookRd_ok hB) (h'.more needRd_ok hB')).mono fun e w' ⟨⟨v',he,ho⟩,hb⟩=>⟨⟨v',he,ho.own fI⟩,hb⟩
theorem implLiveThunks_v (v u:Value) (x:DBook) (y:DNeed) (w:World) {B B':Nat} (h:RdT bookRd w B v x) (h':RdT needRd w B' u y) (hB:B≤w.heap.size) (hB':B'≤w.heap.size) (hs:szBook x≤1048576) (hs':szNeed y≤1048576) :
    Calls Tryz.prog 25 #[v,u] w fun e w'=>(∃v',e=.returned (.tuple #[v',.int .i64 (liveT x y).2])∧OwS intOw 1 w' v' (liveT x y).1 w.heap.size w'.heap.size)∧Below w.heap.size w w':=
  (c_m_impl_LiveThunks x y _ (p_iLiveThunks x y (small_of hs hs')) v u w (h.more bookRd_ok hB) (h'.more needRd_ok hB')).mono fun e w' ⟨⟨v',he,ho⟩,hb⟩=>⟨⟨v',he,ho.own fI⟩,hb⟩
end
section
open Go.RowKit
set_option maxRecDepth 100000
set_option maxHeartbeats 8000000 in
theorem walk_LiveThunks (w:World) (v0:Value) (x:DBook) (R0:RdT bookRd w w.heap.size v0 x) (v1:Value) (y:DNeed) (R1:RdT needRd w w.heap.size v1 y) :
    Calls Tryz.prog 5 #[v0,v1] w fun e w'=>e=.returned (.bool true)∧Below w.heap.size w w':=by
  obtain ⟨a0A0,a0n0,a0c0,rfl⟩ :∃a0A0 a0n0 a0c0,v0=.agg #[.slice a0A0 a0n0 a0c0]:=by obtain ⟨cs,rfl,⟨A0,n0,c0,rfl,_⟩⟩:=R0; exact ⟨A0,n0,c0,rfl⟩
  obtain ⟨a1A2,a1n2,a1c2,a1A3,a1n3,a1c3,a1A4,a1n4,a1c4,a1A5,a1n5,a1c5,a1A6,a1n6,a1c6,rfl⟩ :∃a1A2 a1n2 a1c2 a1A3 a1n3 a1c3 a1A4 a1n4 a1c4 a1A5 a1n5 a1c5 a1A6 a1n6 a1c6,v1=.agg #[.int .i64 y.control.term.kind,.int .i64 y.control.term.value,.slice a1A2 a1n2 a1c2,.slice a1A3 a1n3 a1c3,.slice a1A4 a1n4 a1c4,.slice a1A5 a1n5 a1c5,.slice a1A6 a1n6 a1c6]:=by obtain ⟨cs,rfl,⟨A2,n2,c2,A3,n3,c3,A4,n4,c4,A5,n5,c5,A6,n6,c6,rfl,_⟩⟩:=R1; exact ⟨A2,n2,c2,A3,n3,c3,A4,n4,c4,A5,n5,c5,A6,n6,c6,rfl⟩
  by_cases d0:(szBook x:Int)≤1048576
  case neg=>
   have T:=Below.refl w.heap.size w
   have T:Below w.heap.size w (w.alloc (.cells #[.slice a0A0 a0n0 a0c0] 59)):=T.alloc (by first|exact Nat.le_refl _|(simp; done)|(simp; omega)) _
   have B0:Blk (w.alloc (.cells #[.slice a0A0 a0n0 a0c0] 59)) (w.heap.size) 59 #[.slice a0A0 a0n0 a0c0]:=by have:=Blk.new w 59 #[.slice a0A0 a0n0 a0c0]; simpa using this
   have zb0:(w.alloc (.cells #[.slice a0A0 a0n0 a0c0] 59)).heap.size=w.heap.size+1:=by simp
   have T:Below w.heap.size w ((w.alloc (.cells #[.slice a0A0 a0n0 a0c0] 59)).alloc (.cells #[.int .i64 y.control.term.kind,.int .i64 y.control.term.value,.slice a1A2 a1n2 a1c2,.slice a1A3 a1n3 a1c3,.slice a1A4 a1n4 a1c4,.slice a1A5 a1n5 a1c5,.slice a1A6 a1n6 a1c6] 68)):=T.alloc (by first|exact Nat.le_refl _|(simp; done)|(simp; omega)) _
   have B0:=B0.alloc (.cells #[.int .i64 y.control.term.kind,.int .i64 y.control.term.value,.slice a1A2 a1n2 a1c2,.slice a1A3 a1n3 a1c3,.slice a1A4 a1n4 a1c4,.slice a1A5 a1n5 a1c5,.slice a1A6 a1n6 a1c6] 68)
   have B1:Blk ((w.alloc (.cells #[.slice a0A0 a0n0 a0c0] 59)).alloc (.cells #[.int .i64 y.control.term.kind,.int .i64 y.control.term.value,.slice a1A2 a1n2 a1c2,.slice a1A3 a1n3 a1c3,.slice a1A4 a1n4 a1c4,.slice a1A5 a1n5 a1c5,.slice a1A6 a1n6 a1c6] 68)) (w.heap.size+1) 68 #[.int .i64 y.control.term.kind,.int .i64 y.control.term.value,.slice a1A2 a1n2 a1c2,.slice a1A3 a1n3 a1c3,.slice a1A4 a1n4 a1c4,.slice a1A5 a1n5 a1c5,.slice a1A6 a1n6 a1c6]:=by have:=Blk.new (w.alloc (.cells #[.slice a0A0 a0n0 a0c0] 59)) 68 #[.int .i64 y.control.term.kind,.int .i64 y.control.term.value,.slice a1A2 a1n2 a1c2,.slice a1A3 a1n3 a1c3,.slice a1A4 a1n4 a1c4,.slice a1A5 a1n5 a1c5,.slice a1A6 a1n6 a1c6]; simpa using this
   have zb1:((w.alloc (.cells #[.slice a0A0 a0n0 a0c0] 59)).alloc (.cells #[.int .i64 y.control.term.kind,.int .i64 y.control.term.value,.slice a1A2 a1n2 a1c2,.slice a1A3 a1n3 a1c3,.slice a1A4 a1n4 a1c4,.slice a1A5 a1n5 a1c5,.slice a1A6 a1n6 a1c6] 68)).heap.size=w.heap.size+1+1:=by simp
   go_enter Tryz.func5,Tryz.ntmps5
   go_wp2_with fail
   refine (szBook_v _ x (1048576) _ (R0.below bookRd_ok T) T.size (by omega) (by omega)).mono ?_
   rw [szL_neg (by omega)]
   rintro e w1 ⟨rfl,b1⟩
   have z1:=b1.size
   have B0:=B0.below b1 (by omega)
   have B1:=B1.below b1 (by omega)
   have T:=T.trans (b1.mono (by omega))
   have gB0:=B0.cell
   have gB1:=B1.cell
   go_wp2_with fail
   go_ret
   exact ⟨rfl,T⟩
  by_cases d1:(szNeed y:Int)≤1048576 - (szBook x:Int)
  case neg=>
   have T:=Below.refl w.heap.size w
   have T:Below w.heap.size w (w.alloc (.cells #[.slice a0A0 a0n0 a0c0] 59)):=T.alloc (by first|exact Nat.le_refl _|(simp; done)|(simp; omega)) _
   have B0:Blk (w.alloc (.cells #[.slice a0A0 a0n0 a0c0] 59)) (w.heap.size) 59 #[.slice a0A0 a0n0 a0c0]:=by have:=Blk.new w 59 #[.slice a0A0 a0n0 a0c0]; simpa using this
   have zb0:(w.alloc (.cells #[.slice a0A0 a0n0 a0c0] 59)).heap.size=w.heap.size+1:=by simp
   have T:Below w.heap.size w ((w.alloc (.cells #[.slice a0A0 a0n0 a0c0] 59)).alloc (.cells #[.int .i64 y.control.term.kind,.int .i64 y.control.term.value,.slice a1A2 a1n2 a1c2,.slice a1A3 a1n3 a1c3,.slice a1A4 a1n4 a1c4,.slice a1A5 a1n5 a1c5,.slice a1A6 a1n6 a1c6] 68)):=T.alloc (by first|exact Nat.le_refl _|(simp; done)|(simp; omega)) _
   have B0:=B0.alloc (.cells #[.int .i64 y.control.term.kind,.int .i64 y.control.term.value,.slice a1A2 a1n2 a1c2,.slice a1A3 a1n3 a1c3,.slice a1A4 a1n4 a1c4,.slice a1A5 a1n5 a1c5,.slice a1A6 a1n6 a1c6] 68)
   have B1:Blk ((w.alloc (.cells #[.slice a0A0 a0n0 a0c0] 59)).alloc (.cells #[.int .i64 y.control.term.kind,.int .i64 y.control.term.value,.slice a1A2 a1n2 a1c2,.slice a1A3 a1n3 a1c3,.slice a1A4 a1n4 a1c4,.slice a1A5 a1n5 a1c5,.slice a1A6 a1n6 a1c6] 68)) (w.heap.size+1) 68 #[.int .i64 y.control.term.kind,.int .i64 y.control.term.value,.slice a1A2 a1n2 a1c2,.slice a1A3 a1n3 a1c3,.slice a1A4 a1n4 a1c4,.slice a1A5 a1n5 a1c5,.slice a1A6 a1n6 a1c6]:=by have:=Blk.new (w.alloc (.cells #[.slice a0A0 a0n0 a0c0] 59)) 68 #[.int .i64 y.control.term.kind,.int .i64 y.control.term.value,.slice a1A2 a1n2 a1c2,.slice a1A3 a1n3 a1c3,.slice a1A4 a1n4 a1c4,.slice a1A5 a1n5 a1c5,.slice a1A6 a1n6 a1c6]; simpa using this
   have zb1:((w.alloc (.cells #[.slice a0A0 a0n0 a0c0] 59)).alloc (.cells #[.int .i64 y.control.term.kind,.int .i64 y.control.term.value,.slice a1A2 a1n2 a1c2,.slice a1A3 a1n3 a1c3,.slice a1A4 a1n4 a1c4,.slice a1A5 a1n5 a1c5,.slice a1A6 a1n6 a1c6] 68)).heap.size=w.heap.size+1+1:=by simp
   go_enter Tryz.func5,Tryz.ntmps5
   go_wp2_with fail
   refine (szBook_v _ x (1048576) _ (R0.below bookRd_ok T) T.size (by omega) (by omega)).mono ?_
   rw [szL_pos (by omega)]
   rintro e w1 ⟨rfl,b1⟩
   have z1:=b1.size
   have B0:=B0.below b1 (by omega)
   have B1:=B1.below b1 (by omega)
   have T:=T.trans (b1.mono (by omega))
   have gB0:=B0.cell
   have gB1:=B1.cell
   go_wp2_with fail
   refine (szNeed_v _ y (1048576 - (szBook x:Int)) _ (R1.below needRd_ok T) T.size (by omega) (by omega)).mono ?_
   rw [szL_neg (by omega)]
   rintro e w2 ⟨rfl,b2⟩
   have z2:=b2.size
   have B0:=B0.below b2 (by omega)
   have B1:=B1.below b2 (by omega)
   have T:=T.trans (b2.mono (by omega))
   clear gB0
   clear gB1
   have gB0:=B0.cell
   have gB1:=B1.cell
   go_wp2_with fail
   go_ret
   exact ⟨rfl,T⟩
  have s0:szBook x≤1048576:=by omega
  have s1:szNeed y≤1048576:=by omega
  have sr:=liveT_ok x y
  have q_r:eqL ((liveT x y).1) ((liveT x y).1)=true:=decide_eq_true rfl
  have T:=Below.refl w.heap.size w
  have T:Below w.heap.size w (w.alloc (.cells #[.slice a0A0 a0n0 a0c0] 59)):=T.alloc (by first|exact Nat.le_refl _|(simp; done)|(simp; omega)) _
  have B0:Blk (w.alloc (.cells #[.slice a0A0 a0n0 a0c0] 59)) (w.heap.size) 59 #[.slice a0A0 a0n0 a0c0]:=by have:=Blk.new w 59 #[.slice a0A0 a0n0 a0c0]; simpa using this
  have zb0:(w.alloc (.cells #[.slice a0A0 a0n0 a0c0] 59)).heap.size=w.heap.size+1:=by simp
  have T:Below w.heap.size w ((w.alloc (.cells #[.slice a0A0 a0n0 a0c0] 59)).alloc (.cells #[.int .i64 y.control.term.kind,.int .i64 y.control.term.value,.slice a1A2 a1n2 a1c2,.slice a1A3 a1n3 a1c3,.slice a1A4 a1n4 a1c4,.slice a1A5 a1n5 a1c5,.slice a1A6 a1n6 a1c6] 68)):=T.alloc (by first|exact Nat.le_refl _|(simp; done)|(simp; omega)) _
  have B0:=B0.alloc (.cells #[.int .i64 y.control.term.kind,.int .i64 y.control.term.value,.slice a1A2 a1n2 a1c2,.slice a1A3 a1n3 a1c3,.slice a1A4 a1n4 a1c4,.slice a1A5 a1n5 a1c5,.slice a1A6 a1n6 a1c6] 68)
  have B1:Blk ((w.alloc (.cells #[.slice a0A0 a0n0 a0c0] 59)).alloc (.cells #[.int .i64 y.control.term.kind,.int .i64 y.control.term.value,.slice a1A2 a1n2 a1c2,.slice a1A3 a1n3 a1c3,.slice a1A4 a1n4 a1c4,.slice a1A5 a1n5 a1c5,.slice a1A6 a1n6 a1c6] 68)) (w.heap.size+1) 68 #[.int .i64 y.control.term.kind,.int .i64 y.control.term.value,.slice a1A2 a1n2 a1c2,.slice a1A3 a1n3 a1c3,.slice a1A4 a1n4 a1c4,.slice a1A5 a1n5 a1c5,.slice a1A6 a1n6 a1c6]:=by have:=Blk.new (w.alloc (.cells #[.slice a0A0 a0n0 a0c0] 59)) 68 #[.int .i64 y.control.term.kind,.int .i64 y.control.term.value,.slice a1A2 a1n2 a1c2,.slice a1A3 a1n3 a1c3,.slice a1A4 a1n4 a1c4,.slice a1A5 a1n5 a1c5,.slice a1A6 a1n6 a1c6]; simpa using this
  have zb1:((w.alloc (.cells #[.slice a0A0 a0n0 a0c0] 59)).alloc (.cells #[.int .i64 y.control.term.kind,.int .i64 y.control.term.value,.slice a1A2 a1n2 a1c2,.slice a1A3 a1n3 a1c3,.slice a1A4 a1n4 a1c4,.slice a1A5 a1n5 a1c5,.slice a1A6 a1n6 a1c6] 68)).heap.size=w.heap.size+1+1:=by simp
  go_enter Tryz.func5,Tryz.ntmps5
  go_wp2_with fail
  refine (szBook_v _ x (1048576) _ (R0.below bookRd_ok T) T.size (by omega) (by omega)).mono ?_
  rw [szL_pos (by omega)]
  rintro e w1 ⟨rfl,b1⟩
  have z1:=b1.size
  have B0:=B0.below b1 (by omega)
  have B1:=B1.below b1 (by omega)
  have T:=T.trans (b1.mono (by omega))
  have gB0:=B0.cell
  have gB1:=B1.cell
  go_wp2_with fail
  refine (szNeed_v _ y (1048576 - (szBook x:Int)) _ (R1.below needRd_ok T) T.size (by omega) (by omega)).mono ?_
  rw [szL_pos (by omega)]
  rintro e w2 ⟨rfl,b2⟩
  have z2:=b2.size
  have B0:=B0.below b2 (by omega)
  have B1:=B1.below b2 (by omega)
  have T:=T.trans (b2.mono (by omega))
  clear gB0
  clear gB1
  have gB0:=B0.cell
  have gB1:=B1.cell
  go_wp2_with fail
  have T:=T.drew
  have B0:=B0.drew
  have B1:=B1.drew
  have zd3:w2.drew.heap.size=w2.heap.size:=rfl
  go_region_held3 (fun w'=>w'.cell? ⟨w.heap.size,0,none⟩=some (.slice a0A0 a0n0 a0c0)∧w'.cell? ⟨w.heap.size+1,0,none⟩=some (.int .i64 y.control.term.kind)∧w'.cell? ⟨w.heap.size+1,1,none⟩=some (.int .i64 y.control.term.value)∧w'.cell? ⟨w.heap.size+1,2,none⟩=some (.slice a1A2 a1n2 a1c2)∧w'.cell? ⟨w.heap.size+1,3,none⟩=some (.slice a1A3 a1n3 a1c3)∧w'.cell? ⟨w.heap.size+1,4,none⟩=some (.slice a1A4 a1n4 a1c4)∧w'.cell? ⟨w.heap.size+1,5,none⟩=some (.slice a1A5 a1n5 a1c5)∧w'.cell? ⟨w.heap.size+1,6,none⟩=some (.slice a1A6 a1n6 a1c6)) (exact ⟨gB0 0,gB1 0,gB1 1,gB1 2,gB1 3,gB1 4,gB1 5,gB1 6⟩) (first
   |(go_at_call 23; refine (toBook_v _ x _ (R0.below bookRd_ok T) T.size s0).mono ?_; rintro e w4 ⟨⟨t1,rfl,p2⟩,b4⟩; have z4:=b4.size; have B0:=B0.below b4 (by omega); have B1:=B1.below b4 (by omega); have T:=T.trans (b4.mono (by omega)); clear gB0; clear gB1; have gB0:=B0.cell; have gB1:=B1.cell)
   |(go_at_call 24; refine (toNeed_v _ y _ (R1.below needRd_ok T) T.size s1).mono ?_; rintro e w5 ⟨⟨t3,rfl,p4⟩,b5⟩; have z5:=b5.size; have B0:=B0.below b5 (by omega); have B1:=B1.below b5 (by omega); have p2:=p2.below bookOw_ok b5 (by omega); have T:=T.trans (b5.mono (by omega)); clear gB0; clear gB1; have gB0:=B0.cell; have gB1:=B1.cell)
   |(go_at_call 22; refine (specLiveThunks_v _ _ x y _ (p2.reads (bookOw_reads (w5).heap.size) (by omega)) (p4.reads (needOw_reads (w5).heap.size) (by omega)) (Nat.le_refl _) (Nat.le_refl _) s0 s1).mono ?_; rintro e w6 ⟨⟨u6,rfl,G5⟩,b6⟩; have z6:=b6.size; have B0:=B0.below b6 (by omega); have B1:=B1.below b6 (by omega); have p2:=p2.below bookOw_ok b6 (by omega); have p4:=p4.below needOw_ok b6 (by omega); have T:=T.trans (b6.mono (by omega)); clear gB0; clear gB1; have gB0:=B0.cell; have gB1:=B1.cell; clear p2; clear p4))
  go_wp2_with fail
  refine (toBook_v _ x _ (R0.below bookRd_ok T) T.size s0).mono ?_
  rintro e w7 ⟨⟨t7,rfl,p8⟩,b7⟩
  have z7:=b7.size
  have B0:=B0.below b7 (by omega)
  have B1:=B1.below b7 (by omega)
  have G5:=G5.below intOw_ok b7 (by omega)
  have T:=T.trans (b7.mono (by omega))
  clear gB0
  clear gB1
  have gB0:=B0.cell
  have gB1:=B1.cell
  obtain ⟨l10A0,l10n0,l10c0,rfl⟩ :∃l10A0 l10n0 l10c0,t7=.agg #[.slice l10A0 l10n0 l10c0]:=by obtain ⟨cs,bs,rfl,⟨A0,n0,c0,b0,rfl,_⟩,_⟩:=p8; exact ⟨A0,n0,c0,rfl⟩
  have b8:Below w7.heap.size w7 (w7.alloc (.cells #[.slice l10A0 l10n0 l10c0] 75)):=(Below.refl _ _).alloc (Nat.le_refl _) _
  have z8:(w7.alloc (.cells #[.slice l10A0 l10n0 l10c0] 75)).heap.size=w7.heap.size+1:=World.size_alloc _ _
  have B0:=B0.below b8 (by omega)
  have B1:=B1.below b8 (by omega)
  have G5:=G5.below intOw_ok b8 (by omega)
  have p8:=p8.below bookOw_ok b8 (by omega)
  have T:=T.trans (b8.mono (by omega))
  have X9:Blk (w7.alloc (.cells #[.slice l10A0 l10n0 l10c0] 75)) w7.heap.size 75 #[.slice l10A0 l10n0 l10c0]:=Blk.new _ _ _
  clear gB0
  clear gB1
  have gB0:=B0.cell
  have gB1:=B1.cell
  have gX9:=X9.cell
  go_wp2_with fail
  refine (toNeed_v _ y _ (R1.below needRd_ok T) T.size s1).mono ?_
  rintro e w9 ⟨⟨t11,rfl,p12⟩,b9⟩
  have z9:=b9.size
  have B0:=B0.below b9 (by omega)
  have B1:=B1.below b9 (by omega)
  have X9:=X9.below b9 (by omega)
  have G5:=G5.below intOw_ok b9 (by omega)
  have p8:=p8.below bookOw_ok b9 (by omega)
  have T:=T.trans (b9.mono (by omega))
  clear gB0
  clear gB1
  clear gX9
  have gB0:=B0.cell
  have gB1:=B1.cell
  have gX9:=X9.cell
  obtain ⟨l14A2,l14n2,l14c2,l14A3,l14n3,l14c3,l14A4,l14n4,l14c4,l14A5,l14n5,l14c5,l14A6,l14n6,l14c6,rfl⟩ :∃l14A2 l14n2 l14c2 l14A3 l14n3 l14c3 l14A4 l14n4 l14c4 l14A5 l14n5 l14c5 l14A6 l14n6 l14c6,t11=.agg #[.int .i64 y.control.term.kind,.int .i64 y.control.term.value,.slice l14A2 l14n2 l14c2,.slice l14A3 l14n3 l14c3,.slice l14A4 l14n4 l14c4,.slice l14A5 l14n5 l14c5,.slice l14A6 l14n6 l14c6]:=by obtain ⟨cs,bs,rfl,⟨A2,n2,c2,A3,n3,c3,A4,n4,c4,A5,n5,c5,A6,n6,c6,b2,b3,b4,b5,b6,rfl,_⟩,_⟩:=p12; exact ⟨A2,n2,c2,A3,n3,c3,A4,n4,c4,A5,n5,c5,A6,n6,c6,rfl⟩
  have b10:Below w9.heap.size w9 (w9.alloc (.cells #[.int .i64 y.control.term.kind,.int .i64 y.control.term.value,.slice l14A2 l14n2 l14c2,.slice l14A3 l14n3 l14c3,.slice l14A4 l14n4 l14c4,.slice l14A5 l14n5 l14c5,.slice l14A6 l14n6 l14c6] 84)):=(Below.refl _ _).alloc (Nat.le_refl _) _
  have z10:(w9.alloc (.cells #[.int .i64 y.control.term.kind,.int .i64 y.control.term.value,.slice l14A2 l14n2 l14c2,.slice l14A3 l14n3 l14c3,.slice l14A4 l14n4 l14c4,.slice l14A5 l14n5 l14c5,.slice l14A6 l14n6 l14c6] 84)).heap.size=w9.heap.size+1:=World.size_alloc _ _
  have B0:=B0.below b10 (by omega)
  have B1:=B1.below b10 (by omega)
  have X9:=X9.below b10 (by omega)
  have G5:=G5.below intOw_ok b10 (by omega)
  have p8:=p8.below bookOw_ok b10 (by omega)
  have p12:=p12.below needOw_ok b10 (by omega)
  have T:=T.trans (b10.mono (by omega))
  have X13:Blk (w9.alloc (.cells #[.int .i64 y.control.term.kind,.int .i64 y.control.term.value,.slice l14A2 l14n2 l14c2,.slice l14A3 l14n3 l14c3,.slice l14A4 l14n4 l14c4,.slice l14A5 l14n5 l14c5,.slice l14A6 l14n6 l14c6] 84)) w9.heap.size 84 #[.int .i64 y.control.term.kind,.int .i64 y.control.term.value,.slice l14A2 l14n2 l14c2,.slice l14A3 l14n3 l14c3,.slice l14A4 l14n4 l14c4,.slice l14A5 l14n5 l14c5,.slice l14A6 l14n6 l14c6]:=Blk.new _ _ _
  clear gB0
  clear gB1
  clear gX9
  have gB0:=B0.cell
  have gB1:=B1.cell
  have gX9:=X9.cell
  have gX13:=X13.cell
  go_wp2_with fail
  refine (implLiveThunks_v _ _ x y _ (p8.reads (bookOw_reads ((w9.alloc (.cells #[.int .i64 y.control.term.kind,.int .i64 y.control.term.value,.slice l14A2 l14n2 l14c2,.slice l14A3 l14n3 l14c3,.slice l14A4 l14n4 l14c4,.slice l14A5 l14n5 l14c5,.slice l14A6 l14n6 l14c6] 84))).heap.size) (by omega)) (p12.reads (needOw_reads ((w9.alloc (.cells #[.int .i64 y.control.term.kind,.int .i64 y.control.term.value,.slice l14A2 l14n2 l14c2,.slice l14A3 l14n3 l14c3,.slice l14A4 l14n4 l14c4,.slice l14A5 l14n5 l14c5,.slice l14A6 l14n6 l14c6] 84))).heap.size) (by omega)) (Nat.le_refl _) (Nat.le_refl _) s0 s1).mono ?_
  rintro e w11 ⟨⟨u16,rfl,G15⟩,b11⟩
  have z11:=b11.size
  have B0:=B0.below b11 (by omega)
  have B1:=B1.below b11 (by omega)
  have X9:=X9.below b11 (by omega)
  have X13:=X13.below b11 (by omega)
  have G5:=G5.below intOw_ok b11 (by omega)
  have p8:=p8.below bookOw_ok b11 (by omega)
  have p12:=p12.below needOw_ok b11 (by omega)
  have T:=T.trans (b11.mono (by omega))
  clear gB0
  clear gB1
  clear gX9
  clear gX13
  have gB0:=B0.cell
  have gB1:=B1.cell
  have gX9:=X9.cell
  have gX13:=X13.cell
  go_wp2_with fail
  refine (eqInt64S_v _ _ _ _ _ (G15.reads (intOw_reads (w11).heap.size) (by omega)) (G5.reads (intOw_reads (w11).heap.size) (by omega)) (Nat.le_refl _) (Nat.le_refl _)).mono ?_
  rintro e w12 ⟨rfl,b12⟩
  have z12:=b12.size
  have B0:=B0.below b12 (by omega)
  have B1:=B1.below b12 (by omega)
  have X9:=X9.below b12 (by omega)
  have X13:=X13.below b12 (by omega)
  have G5:=G5.below intOw_ok b12 (by omega)
  have p8:=p8.below bookOw_ok b12 (by omega)
  have p12:=p12.below needOw_ok b12 (by omega)
  have G15:=G15.below intOw_ok b12 (by omega)
  have T:=T.trans (b12.mono (by omega))
  clear gB0
  clear gB1
  clear gX9
  clear gX13
  have gB0:=B0.cell
  have gB1:=B1.cell
  have gX9:=X9.cell
  have gX13:=X13.cell
  go_wp2_with fail
  have T:=T.drew
  have B0:=B0.drew
  have B1:=B1.drew
  have X9:=X9.drew
  have X13:=X13.drew
  have G5:=G5.keep intOw_ok (w':=w12.drew) (fun _ _ _=>rfl)
  have p8:=p8.keep bookOw_ok (w':=w12.drew) (fun _ _ _=>rfl)
  have p12:=p12.keep needOw_ok (w':=w12.drew) (fun _ _ _=>rfl)
  have G15:=G15.keep intOw_ok (w':=w12.drew) (fun _ _ _=>rfl)
  have zd13:w12.drew.heap.size=w12.heap.size:=rfl
  go_region_held3 (fun w'=>w'.cell? ⟨w7.heap.size,0,none⟩=some (.slice l10A0 l10n0 l10c0)∧w'.cell? ⟨w.heap.size,0,none⟩=some (.slice a0A0 a0n0 a0c0)) (exact ⟨gX9 0,gB0 0⟩) (first
   |(go_at_call 23; refine (toBook_v _ x _ (R0.below bookRd_ok T) T.size s0).mono ?_; rintro e w14 ⟨⟨t17,rfl,p18⟩,b14⟩; have z14:=b14.size; have B0:=B0.below b14 (by omega); have B1:=B1.below b14 (by omega); have X9:=X9.below b14 (by omega); have X13:=X13.below b14 (by omega); have G5:=G5.below intOw_ok b14 (by omega); have p8:=p8.below bookOw_ok b14 (by omega); have p12:=p12.below needOw_ok b14 (by omega); have G15:=G15.below intOw_ok b14 (by omega); have T:=T.trans (b14.mono (by omega)); clear gB0; clear gB1; clear gX9; clear gX13; have gB0:=B0.cell; have gB1:=B1.cell; have gX9:=X9.cell; have gX13:=X13.cell)
   |(go_at_call 27; refine (eqBook_v _ _ _ _ _ (p8.reads (bookOw_reads (w14).heap.size) (by omega)) (p18.reads (bookOw_reads (w14).heap.size) (by omega)) (Nat.le_refl _) (Nat.le_refl _)).mono ?_; rintro e w15 ⟨rfl,b15⟩; have z15:=b15.size; have B0:=B0.below b15 (by omega); have B1:=B1.below b15 (by omega); have X9:=X9.below b15 (by omega); have X13:=X13.below b15 (by omega); have G5:=G5.below intOw_ok b15 (by omega); have p8:=p8.below bookOw_ok b15 (by omega); have p12:=p12.below needOw_ok b15 (by omega); have G15:=G15.below intOw_ok b15 (by omega); have p18:=p18.below bookOw_ok b15 (by omega); have T:=T.trans (b15.mono (by omega)); clear gB0; clear gB1; clear gX9; clear gX13; have gB0:=B0.cell; have gB1:=B1.cell; have gX9:=X9.cell; have gX13:=X13.cell))
  go_wp2_with fail
  have T:=T.drew
  have B0:=B0.drew
  have B1:=B1.drew
  have X9:=X9.drew
  have X13:=X13.drew
  have G5:=G5.keep intOw_ok (w':=w15.drew) (fun _ _ _=>rfl)
  have p8:=p8.keep bookOw_ok (w':=w15.drew) (fun _ _ _=>rfl)
  have p12:=p12.keep needOw_ok (w':=w15.drew) (fun _ _ _=>rfl)
  have G15:=G15.keep intOw_ok (w':=w15.drew) (fun _ _ _=>rfl)
  have p18:=p18.keep bookOw_ok (w':=w15.drew) (fun _ _ _=>rfl)
  have zd16:w15.drew.heap.size=w15.heap.size:=rfl
  go_region_held3 (fun w'=>w'.cell? ⟨w9.heap.size,0,none⟩=some (.int .i64 y.control.term.kind)∧w'.cell? ⟨w9.heap.size,1,none⟩=some (.int .i64 y.control.term.value)∧w'.cell? ⟨w9.heap.size,2,none⟩=some (.slice l14A2 l14n2 l14c2)∧w'.cell? ⟨w9.heap.size,3,none⟩=some (.slice l14A3 l14n3 l14c3)∧w'.cell? ⟨w9.heap.size,4,none⟩=some (.slice l14A4 l14n4 l14c4)∧w'.cell? ⟨w9.heap.size,5,none⟩=some (.slice l14A5 l14n5 l14c5)∧w'.cell? ⟨w9.heap.size,6,none⟩=some (.slice l14A6 l14n6 l14c6)∧w'.cell? ⟨w.heap.size+1,0,none⟩=some (.int .i64 y.control.term.kind)∧w'.cell? ⟨w.heap.size+1,1,none⟩=some (.int .i64 y.control.term.value)∧w'.cell? ⟨w.heap.size+1,2,none⟩=some (.slice a1A2 a1n2 a1c2)∧w'.cell? ⟨w.heap.size+1,3,none⟩=some (.slice a1A3 a1n3 a1c3)∧w'.cell? ⟨w.heap.size+1,4,none⟩=some (.slice a1A4 a1n4 a1c4)∧w'.cell? ⟨w.heap.size+1,5,none⟩=some (.slice a1A5 a1n5 a1c5)∧w'.cell? ⟨w.heap.size+1,6,none⟩=some (.slice a1A6 a1n6 a1c6)) (exact ⟨gX13 0,gX13 1,gX13 2,gX13 3,gX13 4,gX13 5,gX13 6,gB1 0,gB1 1,gB1 2,gB1 3,gB1 4,gB1 5,gB1 6⟩) (first
   |(go_at_call 24; refine (toNeed_v _ y _ (R1.below needRd_ok T) T.size s1).mono ?_; rintro e w17 ⟨⟨t19,rfl,p20⟩,b17⟩; have z17:=b17.size; have B0:=B0.below b17 (by omega); have B1:=B1.below b17 (by omega); have X9:=X9.below b17 (by omega); have X13:=X13.below b17 (by omega); have G5:=G5.below intOw_ok b17 (by omega); have p8:=p8.below bookOw_ok b17 (by omega); have p12:=p12.below needOw_ok b17 (by omega); have G15:=G15.below intOw_ok b17 (by omega); have p18:=p18.below bookOw_ok b17 (by omega); have T:=T.trans (b17.mono (by omega)); clear gB0; clear gB1; clear gX9; clear gX13; have gB0:=B0.cell; have gB1:=B1.cell; have gX9:=X9.cell; have gX13:=X13.cell)
   |(go_at_call 28; refine (eqNeed_v _ _ _ _ _ (p12.reads (needOw_reads (w17).heap.size) (by omega)) (p20.reads (needOw_reads (w17).heap.size) (by omega)) (Nat.le_refl _) (Nat.le_refl _)).mono ?_; rintro e w18 ⟨rfl,b18⟩; have z18:=b18.size; have B0:=B0.below b18 (by omega); have B1:=B1.below b18 (by omega); have X9:=X9.below b18 (by omega); have X13:=X13.below b18 (by omega); have G5:=G5.below intOw_ok b18 (by omega); have p8:=p8.below bookOw_ok b18 (by omega); have p12:=p12.below needOw_ok b18 (by omega); have G15:=G15.below intOw_ok b18 (by omega); have p18:=p18.below bookOw_ok b18 (by omega); have p20:=p20.below needOw_ok b18 (by omega); have T:=T.trans (b18.mono (by omega)); clear gB0; clear gB1; clear gX9; clear gX13; have gB0:=B0.cell; have gB1:=B1.cell; have gX9:=X9.cell; have gX13:=X13.cell))
  go_wp2_with fail
  obtain ⟨m21,em21⟩ :∃m:Nat,m=(1:Int).toNat+cntL cntC (x).defs:=⟨_,rfl⟩
  have lm21:m21≤2097153:=by have h1:=book_cnt s0; have h2:(1:Int).toNat=1:=rfl; omega
  have hm21:decide ((m21:Int) < 0)=false:=by simp
  refine (markBook_m _ _ _ _ _ _ m21 em21 p8 (by omega) s0 (by omega) (by omega)).mono ?_
  rintro e w19 ⟨rfl,wb19,b19,e19,b20⟩
  clear p8
  clear em21
  have z19:=b19.size
  have B0:=B0.below b19 (by omega)
  have B1:=B1.below b19 (by omega)
  have X9:=X9.below b19 (by omega)
  have X13:=X13.below b19 (by omega)
  have G5:=G5.below intOw_ok b19 (by omega)
  have p12:=p12.below needOw_ok b19 (by omega)
  have G15:=G15.below intOw_ok b19 (by omega)
  have p18:=p18.below bookOw_ok b19 (by omega)
  have p20:=p20.below needOw_ok b19 (by omega)
  have T:=T.trans (b19.mono (by omega))
  have z20:=Nat.le_of_eq e19
  have y20:=Nat.le_of_eq e19.symm
  have B0:=B0.only b20 (by omega)
  have B1:=B1.only b20 (by omega)
  have X9:=X9.only b20 (by omega)
  have X13:=X13.only b20 (by omega)
  have G5:=G5.only intOw_ok b20 (by omega)
  have p12:=p12.only needOw_ok b20 (by omega)
  have G15:=G15.only intOw_ok b20 (by omega)
  have p18:=p18.only bookOw_ok b20 (by omega)
  have p20:=p20.only needOw_ok b20 (by omega)
  have T:=T.trans (b20.below.mono (by omega))
  clear gB0
  clear gB1
  clear gX9
  clear gX13
  have gB0:=B0.cell
  have gB1:=B1.cell
  have gX9:=X9.cell
  have gX13:=X13.cell
  go_wp2_with fail
  refine (markNeed_v _ _ _ _ _ _ p12 (by omega) s1 (by omega) (by omega)).mono ?_
  rintro e w21 ⟨m22,rfl,wb21,b21,e21,b22⟩
  clear p12
  have z21:=b21.size
  have B0:=B0.below b21 (by omega)
  have B1:=B1.below b21 (by omega)
  have X9:=X9.below b21 (by omega)
  have X13:=X13.below b21 (by omega)
  have G5:=G5.below intOw_ok b21 (by omega)
  have G15:=G15.below intOw_ok b21 (by omega)
  have p18:=p18.below bookOw_ok b21 (by omega)
  have p20:=p20.below needOw_ok b21 (by omega)
  have T:=T.trans (b21.mono (by omega))
  have z22:=Nat.le_of_eq e21
  have y22:=Nat.le_of_eq e21.symm
  have B0:=B0.only b22 (by omega)
  have B1:=B1.only b22 (by omega)
  have X9:=X9.only b22 (by omega)
  have X13:=X13.only b22 (by omega)
  have G5:=G5.only intOw_ok b22 (by omega)
  have G15:=G15.only intOw_ok b22 (by omega)
  have p18:=p18.only bookOw_ok b22 (by omega)
  have p20:=p20.only needOw_ok b22 (by omega)
  have T:=T.trans (b22.below.mono (by omega))
  have hm22:decide ((m22:Int) < 0)=false:=by simp
  clear gB0
  clear gB1
  clear gX9
  clear gX13
  have gB0:=B0.cell
  have gB1:=B1.cell
  have gX9:=X9.cell
  have gX13:=X13.cell
  go_wp2_with fail
  refine (eqInt64S_v _ _ _ _ _ (G15.reads (intOw_reads (w21).heap.size) (by omega)) (G5.reads (intOw_reads (w21).heap.size) (by omega)) (Nat.le_refl _) (Nat.le_refl _)).mono ?_
  rintro e w23 ⟨rfl,b23⟩
  have z23:=b23.size
  have B0:=B0.below b23 (by omega)
  have B1:=B1.below b23 (by omega)
  have X9:=X9.below b23 (by omega)
  have X13:=X13.below b23 (by omega)
  have G5:=G5.below intOw_ok b23 (by omega)
  have G15:=G15.below intOw_ok b23 (by omega)
  have p18:=p18.below bookOw_ok b23 (by omega)
  have p20:=p20.below needOw_ok b23 (by omega)
  have T:=T.trans (b23.mono (by omega))
  clear gB0
  clear gB1
  clear gX9
  clear gX13
  have gB0:=B0.cell
  have gB1:=B1.cell
  have gX9:=X9.cell
  have gX13:=X13.cell
  go_wp2_with fail
  refine (markInt64S_v _ _ _ _ _ _ G15 sr (by omega) (by omega)).mono ?_
  rintro e w24 ⟨rfl,G15,b24⟩
  have z24:=Nat.le_of_eq b24.size
  have y24:=Nat.le_of_eq b24.size.symm
  have B0:=B0.only b24 (by omega)
  have B1:=B1.only b24 (by omega)
  have X9:=X9.only b24 (by omega)
  have X13:=X13.only b24 (by omega)
  have G5:=G5.only intOw_ok b24 (by omega)
  have p18:=p18.only bookOw_ok b24 (by omega)
  have p20:=p20.only needOw_ok b24 (by omega)
  have T:=T.trans (b24.below.mono (by omega))
  clear gB0
  clear gB1
  clear gX9
  clear gX13
  have gB0:=B0.cell
  have gB1:=B1.cell
  have gX9:=X9.cell
  have gX13:=X13.cell
  go_wp2_with fail
  refine (heldInt64S_v _ (liveT x y).1 _ _ (G15.reads (intOw_reads (w24).heap.size) (by omega)) sr (by omega) (by omega)).mono ?_
  rintro e w25 ⟨rfl,b25⟩
  have z25:=b25.size
  have B0:=B0.below b25 (by omega)
  have B1:=B1.below b25 (by omega)
  have X9:=X9.below b25 (by omega)
  have X13:=X13.below b25 (by omega)
  have G5:=G5.below intOw_ok b25 (by omega)
  have G15:=G15.below intOw_ok b25 (by omega)
  have p18:=p18.below bookOw_ok b25 (by omega)
  have p20:=p20.below needOw_ok b25 (by omega)
  have T:=T.trans (b25.mono (by omega))
  clear gB0
  clear gB1
  clear gX9
  clear gX13
  have gB0:=B0.cell
  have gB1:=B1.cell
  have gX9:=X9.cell
  have gX13:=X13.cell
  go_wp2_with fail
  have T:=T.drew
  have B0:=B0.drew
  have B1:=B1.drew
  have X9:=X9.drew
  have X13:=X13.drew
  have G5:=G5.keep intOw_ok (w':=w25.drew) (fun _ _ _=>rfl)
  have G15:=G15.keep intOw_ok (w':=w25.drew) (fun _ _ _=>rfl)
  have p18:=p18.keep bookOw_ok (w':=w25.drew) (fun _ _ _=>rfl)
  have p20:=p20.keep needOw_ok (w':=w25.drew) (fun _ _ _=>rfl)
  have zd26:w25.drew.heap.size=w25.heap.size:=rfl
  go_region_held3 (fun w'=>w'.cell? ⟨w.heap.size,0,none⟩=some (.slice a0A0 a0n0 a0c0)∧w'.cell? ⟨w.heap.size+1,0,none⟩=some (.int .i64 y.control.term.kind)∧w'.cell? ⟨w.heap.size+1,1,none⟩=some (.int .i64 y.control.term.value)∧w'.cell? ⟨w.heap.size+1,2,none⟩=some (.slice a1A2 a1n2 a1c2)∧w'.cell? ⟨w.heap.size+1,3,none⟩=some (.slice a1A3 a1n3 a1c3)∧w'.cell? ⟨w.heap.size+1,4,none⟩=some (.slice a1A4 a1n4 a1c4)∧w'.cell? ⟨w.heap.size+1,5,none⟩=some (.slice a1A5 a1n5 a1c5)∧w'.cell? ⟨w.heap.size+1,6,none⟩=some (.slice a1A6 a1n6 a1c6)) (exact ⟨gB0 0,gB1 0,gB1 1,gB1 2,gB1 3,gB1 4,gB1 5,gB1 6⟩) (first
   |(go_at_call 23; refine (toBook_v _ x _ (R0.below bookRd_ok T) T.size s0).mono ?_; rintro e w27 ⟨⟨t23,rfl,p24⟩,b27⟩; have z27:=b27.size; have B0:=B0.below b27 (by omega); have B1:=B1.below b27 (by omega); have X9:=X9.below b27 (by omega); have X13:=X13.below b27 (by omega); have G5:=G5.below intOw_ok b27 (by omega); have G15:=G15.below intOw_ok b27 (by omega); have p18:=p18.below bookOw_ok b27 (by omega); have p20:=p20.below needOw_ok b27 (by omega); have T:=T.trans (b27.mono (by omega)); clear gB0; clear gB1; clear gX9; clear gX13; have gB0:=B0.cell; have gB1:=B1.cell; have gX9:=X9.cell; have gX13:=X13.cell)
   |(go_at_call 24; refine (toNeed_v _ y _ (R1.below needRd_ok T) T.size s1).mono ?_; rintro e w28 ⟨⟨t25,rfl,p26⟩,b28⟩; have z28:=b28.size; have B0:=B0.below b28 (by omega); have B1:=B1.below b28 (by omega); have X9:=X9.below b28 (by omega); have X13:=X13.below b28 (by omega); have G5:=G5.below intOw_ok b28 (by omega); have G15:=G15.below intOw_ok b28 (by omega); have p18:=p18.below bookOw_ok b28 (by omega); have p20:=p20.below needOw_ok b28 (by omega); have p24:=p24.below bookOw_ok b28 (by omega); have T:=T.trans (b28.mono (by omega)); clear gB0; clear gB1; clear gX9; clear gX13; have gB0:=B0.cell; have gB1:=B1.cell; have gX9:=X9.cell; have gX13:=X13.cell)
   |(go_at_call 25; refine (implLiveThunks_v _ _ x y _ (p24.reads (bookOw_reads (w28).heap.size) (by omega)) (p26.reads (needOw_reads (w28).heap.size) (by omega)) (Nat.le_refl _) (Nat.le_refl _) s0 s1).mono ?_; rintro e w29 ⟨⟨u28,rfl,G27⟩,b29⟩; have z29:=b29.size; have B0:=B0.below b29 (by omega); have B1:=B1.below b29 (by omega); have X9:=X9.below b29 (by omega); have X13:=X13.below b29 (by omega); have G5:=G5.below intOw_ok b29 (by omega); have G15:=G15.below intOw_ok b29 (by omega); have p18:=p18.below bookOw_ok b29 (by omega); have p20:=p20.below needOw_ok b29 (by omega); have p24:=p24.below bookOw_ok b29 (by omega); have p26:=p26.below needOw_ok b29 (by omega); have T:=T.trans (b29.mono (by omega)); clear gB0; clear gB1; clear gX9; clear gX13; have gB0:=B0.cell; have gB1:=B1.cell; have gX9:=X9.cell; have gX13:=X13.cell; clear p24; clear p26))
  go_wp2_with fail
  refine (eqInt64S_v _ _ _ _ _ (G27.reads (intOw_reads (w29).heap.size) (by omega)) (G5.reads (intOw_reads (w29).heap.size) (by omega)) (Nat.le_refl _) (Nat.le_refl _)).mono ?_
  rintro e w30 ⟨rfl,b30⟩
  have z30:=b30.size
  have B0:=B0.below b30 (by omega)
  have B1:=B1.below b30 (by omega)
  have X9:=X9.below b30 (by omega)
  have X13:=X13.below b30 (by omega)
  have G5:=G5.below intOw_ok b30 (by omega)
  have G15:=G15.below intOw_ok b30 (by omega)
  have p18:=p18.below bookOw_ok b30 (by omega)
  have p20:=p20.below needOw_ok b30 (by omega)
  have G27:=G27.below intOw_ok b30 (by omega)
  have T:=T.trans (b30.mono (by omega))
  clear gB0
  clear gB1
  clear gX9
  clear gX13
  have gB0:=B0.cell
  have gB1:=B1.cell
  have gX9:=X9.cell
  have gX13:=X13.cell
  go_wp2_with fail
  refine (heldInt64S_v _ (liveT x y).1 _ _ (G15.reads (intOw_reads (w30).heap.size) (by omega)) sr (by omega) (by omega)).mono ?_
  rintro e w31 ⟨rfl,b31⟩
  have z31:=b31.size
  have B0:=B0.below b31 (by omega)
  have B1:=B1.below b31 (by omega)
  have X9:=X9.below b31 (by omega)
  have X13:=X13.below b31 (by omega)
  have G5:=G5.below intOw_ok b31 (by omega)
  have G15:=G15.below intOw_ok b31 (by omega)
  have p18:=p18.below bookOw_ok b31 (by omega)
  have p20:=p20.below needOw_ok b31 (by omega)
  have G27:=G27.below intOw_ok b31 (by omega)
  have T:=T.trans (b31.mono (by omega))
  clear gB0
  clear gB1
  clear gX9
  clear gX13
  have gB0:=B0.cell
  have gB1:=B1.cell
  have gX9:=X9.cell
  have gX13:=X13.cell
  go_wp2_with fail
  go_ret
  exact ⟨rfl,T⟩
end
section
open Go.ChangeShapes Go.WideShapes Go.ChangeAt Go.RowKit Go.WideElems
theorem own:ownKnob Tryz.prog.godebug=none:=by kernel_rfl
theorem laid:laidOutB Tryz.prog=true:=by kernel_rfl
section
variable {H : Type} {enc : TypeId × Value → H}
theorem trodAll_stays {W W':World} {sp:Nat→Bool} (hb:Below W.heap.size W W') :∀(ts:List TypeId) (vs:List Value) (ds:List (DataW H)) (ps:List MemPlace),
    (∀t∈ts,Tryz.prog.readableRec t=true∧t < Tryz.prog.types.size)→DataW.TrodAll enc Tryz.prog W 0 (fun _=>true) true ts vs ds ps→
    (∀x∈ps,x.block < W.heap.size)→(∀x∈ps,sp x.block=true)→DataW.TrodAll enc Tryz.prog W' 0 sp true ts vs ds ps
  |[],[],[],ps,_,h,_,_=>h
  |t :: ts,v :: vs,d :: ds,ps,hts,h,hlt,hsp=>by
    obtain ⟨p,q,h1,h2,rfl⟩:=h
    have ht:=hts t (by simp)
    exact ⟨p,q,Trod_stays laid ht.1 ht.2 h1 (fun x hx=>hb.same (hlt x (by simp [hx]))) (fun x hx=>hsp x (by simp [hx])),
      trodAll_stays hb ts vs ds q (fun t' h'=>hts t' (by simp [h'])) h2 (fun x hx=>hlt x (by simp [hx])) (fun x hx=>hsp x (by simp [hx])),rfl⟩
  |[],_ :: _,_,_,_,h,_,_=>h.elim
  |[],[],_ :: _,_,_,h,_,_=>h.elim
  |_ :: _,[],_,_,_,h,_,_=>h.elim
  |_ :: _,_ :: _,[],_,_,h,_,_=>h.elim
theorem post_law {f:Func} {s:ChangeSpec} {W W':World} {args:Array Value} {ds:List (DataW H)} {before:List MemPlace}
    (hv:s.vars=[]) (hr1:f.resultTypes = #[4])
    (hp0:(f.params.toList.all fun t=>Tryz.prog.readableRec t && decide (t < Tryz.prog.types.size))=true)
    (hres:(s.fn H (ds ++ [])).results=[.lit (.bool true)]) (hargs:(s.fn H (ds ++ [])).args=ds) (hvars:(s.fn H (ds ++ [])).vars=[])
    (hW:DataW.Whole enc Tryz.prog f.params.toList s.vars false W args.toList ds [] before)
    (hb:Below W.heap.size W W') :
    s.post enc Tryz.prog f false true false false W args (.bool true) W':=by
  have hp :∀t∈f.params.toList,Tryz.prog.readableRec t=true∧t < Tryz.prog.types.size:=fun t ht=>by simpa using List.all_eq_true.1 hp0 t ht
  have hlt :∀p∈before,p.block < W.heap.size:=fun p hp=>hW.lt p hp
  have hold :∀p∈before,(fun b=>decide (b < W.heap.size)) p.block=true:=fun p hp=>by simpa using hlt p hp
  have hWh:=hW
  obtain ⟨p,q,hA,hV,rfl,hfz,_⟩:=hWh
  rw [hv] at hV
  obtain rfl:q=[]:=hV
  rw [List.append_nil] at hlt hold
  have hA' :∀sp:Nat→Bool,(∀x∈p,sp x.block=true)→DataW.TrodAll enc Tryz.prog W' 0 sp true f.params.toList args.toList ds p:=fun sp hsp=>
    trodAll_stays hb _ _ _ _ hp hA hlt hsp
  rw [List.append_nil] at hW
  refine ⟨ds,[],p,[],p,[],hW,?_,?_,?_,World.keptBut_mono (fun x hx=>⟨hx,?_⟩) (hb.frame (·∈p)),fun h=>by cases h⟩
  · rw [hres,hr1]
    exact trodAll_cons_mk (shut_bool Tryz.underlying4 _) trodAll_mk0
  · rw [hargs]
    exact hA' _ hold
  · rw [hvars,hv]
    rfl
  · simp [hx]
end
end
end Go.Proofs.YtpbobilkejblgaaGreat
