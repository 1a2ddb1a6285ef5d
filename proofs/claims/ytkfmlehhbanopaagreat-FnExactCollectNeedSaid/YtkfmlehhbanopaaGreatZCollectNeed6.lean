/- Lemmas of the proof of CollectNeed, part 6. No condition. -/
import Derived.Test.YtkfmlehhbanopaaGreatZCollectNeed5
namespace Go.Proofs.YtkfmlehhbanopaaGreat
set_option linter.unusedVariables false
set_option linter.unusedSimpArgs false
section
open Go.RowKit
mutual
theorem aHb :∀x:ak,fJ x≤2+2 * rE x
 |⟨k,v,d,ks⟩=>by
  have:=ahH ks
  rw [fJ,rE]
  omega
theorem ahH :∀xs:List ak,afk xs≤2 * xs.length+2 * E5 xs
 |[]=>by rw [afk]; omega
 |x :: xs=>by
  have h1:=aHb x
  have h2:=ahH xs
  rw [afk,E5,List.length_cons]
  omega
end
theorem aaM {α:Type} {cnt sz:α→Nat} {c:Nat} (h :∀x,cnt x≤c+2 * sz x) :∀xs:List α,bJ cnt xs≤c * xs.length+2 * (xs.map sz).sum
 |[]=>by simp [bJ]
 |x :: xs=>by
  have h1:=h x
  have h2:=aaM h xs
  rw [Gn,List.length_cons,List.map_cons,List.sum_cons,Nat.mul_succ]
  omega
theorem S9 (ks:List ak):bJ fJ ks≤2 * Ea ks:=by
 have:=ahH ks
 rw [ag1] at this
 unfold Ea
 omega
theorem amB (xs:List aO):bJ cntF xs≤4 * zy xs:=by
 have:=aaM (cnt:=cntF) (sz:=Ah) (c:=4) (fun x=>by
  have h:=S9 x.closure.term.kids
  have e:=Gz x.closure.term
  unfold cntF Ah g_
  omega) xs
 unfold zy
 omega
theorem amC (xs:List bD):bJ mg xs≤4 * AV xs:=by
 have:=aaM (cnt:=mg) (sz:=yh) (c:=3) (fun x=>by
  have h:=S9 x.closure.term.kids
  have e:=Gz x.closure.term
  unfold mg yh g_
  omega) xs
 unfold AV
 omega
def ahI (x:aN):Nat:=(x.control.term.data.length+bJ fJ x.control.term.kids)+x.control.env.length+bJ cntF x.stack+bJ mg x.heap
def mkNe (k:Nat) (x:aN):aN:=⟨⟨⟨x.control.term.kind,x.control.term.value,marks k x.control.term.data.length,oM (k+x.control.term.data.length) x.control.term.kids⟩,marks (k+(x.control.term.data.length+bJ fJ x.control.term.kids)) x.control.env.length⟩,G7 (k+(x.control.term.data.length+bJ fJ x.control.term.kids)+x.control.env.length) x.stack,G8 (k+(x.control.term.data.length+bJ fJ x.control.term.kids)+x.control.env.length+bJ cntF x.stack) x.heap⟩
set_option maxHeartbeats 8000000 in
theorem ahJ (v:Value) (x:aN) (w:World) (k0:Nat) (lo hi:Nat) (h:OwT Ji w v x lo hi) (hh:hi≤w.heap.size) (hs:qo x≤1048576) (hk:k0≤16777216) :
  Calls Tryz.prog 13 #[v,.int .i64 k0] w fun e w'=>e=.returned (.int .i64 ((k0+ahI x:Nat):Int))∧∃wb,Below w.heap.size w wb∧wb.heap.size=w'.heap.size∧Qy lo hi wb w'∧OwT Ji w' v (mkNe k0 x) lo hi:=by
 obtain ⟨cs,bs,rfl,⟨A1,n1,c1,A2,n2,c2,A3,n3,c3,A4,n4,c4,A5,n5,c5,x1,x2,x3,x4,x5,rfl,⟨g1,r1⟩,⟨g2,r2⟩,⟨g3,r3⟩,⟨g4,r4⟩,⟨g5,r5⟩,rfl⟩,hnd,hb⟩:=h
 have hA :∀o1,Below w.heap.size w (w.alloc o1):=fun o1=>(Below.refl _ _).alloc (Nat.le_refl _) _
 have hz :∀o1,(w.alloc o1).heap.size=w.heap.size+1:=fun o1=>by simp
 have hlt :∀j∈x1 ++ x2 ++ x3 ++ x4 ++ x5,j < w.heap.size:=fun j hj=>by have:=hb j hj; omega
 have H1:=Lib.hid (show∀o1,iV mF 1 (w.alloc o1) A1 n1 x.control.term.data x1 from fun o1=>g1.keep gW (fun j hj=>(hA o1).block j (hlt j (by simp [hj]))))
 have H2:=Lib.hid (show∀o1,iV dI 4 (w.alloc o1) A2 n2 x.control.term.kids x2 from fun o1=>g2.keep aC (fun j hj=>(hA o1).block j (hlt j (by simp [hj]))))
 have H3:=Lib.hid (show∀o1,iV mF 1 (w.alloc o1) A3 n3 x.control.env x3 from fun o1=>g3.keep gW (fun j hj=>(hA o1).block j (hlt j (by simp [hj]))))
 have H4:=Lib.hid (show∀o1,iV dZ 8 (w.alloc o1) A4 n4 x.stack x4 from fun o1=>g4.keep aQ (fun j hj=>(hA o1).block j (hlt j (by simp [hj]))))
 have H5:=Lib.hid (show∀o1,iV fD 6 (w.alloc o1) A5 n5 x.heap x5 from fun o1=>g5.keep aS (fun j hj=>(hA o1).block j (hlt j (by simp [hj]))))
 have N0:=Lib.hid (List.nodup_append.1 hnd)
 have N1:=Lib.hid (List.nodup_append.1 N0.out.1)
 have HN:=Lib.hid hnd
 have HB:=Lib.hid hb
 have HLT:=Lib.hid hlt
 have l4:=Lib.hid g4.len
 have l5:=Lib.hid g5.len
 have B0:=Lib.hid (show∀o1,(w.alloc o1).heap[w.heap.size]? = some o1 from fun o1=>heap_alloc_new w o1)
 have HZ:=Lib.hid hz
 have HA:=Lib.hid hA
 have hc1:=S9 x.control.term.kids
 have hc2:=amB x.stack
 have hc3:=amC x.heap
 have hsz:qo x=(rE x.control.term+x.control.env.length)+(zy x.stack+AV x.heap):=rfl
 have hsc:=Gz x.control.term
 clear hb hnd hlt g1 g2 g3 g4 g5 hz hA
 go_enter Tryz.func13,Tryz.ntmps13
 go_wp2_with fail
 refine (aj1 x.control.term.kind x.control.term.value A1 A2 A3 n1 c1 n2 c2 n3 c3 x.control.term.data x.control.term.kids x.control.env x1 x2 x3 _ k0 (H1.out _) (H2.out _) (H3.out _) N1.out.1 (fun j hj=>by have:=HLT.out j (by simp only [List.mem_append] at hj ⊢; exact .inl (.inl hj)); rw [HZ.out]; omega) (by omega) (by omega) (by omega)).mono ?_
 rintro e w1 ⟨rfl,wb,b1,z1,o1,m1,m2,m3⟩
 have hbk:w.heap.size ∉ x1 ++ x2 ++ x3:=fun hin=>by have:=HLT.out w.heap.size (by simp only [List.mem_append] at hin ⊢; exact .inl (.inl hin)); omega
 have B1:dD w1 w.heap.size 44 #[.int .i64 x.control.term.kind,.int .i64 x.control.term.value,.slice A1 n1 c1,.slice A2 n2 c2,.slice A3 n3 c3,.slice A4 n4 c4,.slice A5 n5 c5]:=(o1.block _ hbk).trans ((b1.block _ (by rw [HZ.out]; omega)).trans (B0.out _))
 have g0:=B1.cell
 have old :∀j,j∈x4 ++ x5→j ∉ x1 ++ x2 ++ x3:=fun j hj hin=>by
  rcases List.mem_append.1 hj with hj|hj
  ·exact N1.out.2.2 j hin j hj rfl
  ·exact N0.out.2.2 j (List.mem_append_left _ hin) j hj rfl
 have O4:iV dZ 8 w1 A4 n4 x.stack x4:=(H4.out _).keep aQ (fun j hj=>(o1.block j (old j (by simp [hj]))).trans (b1.block j (by have:=HLT.out j (by simp [hj]); rw [HZ.out]; omega)))
 have O5:iV fD 6 w1 A5 n5 x.heap x5:=(H5.out _).keep aS (fun j hj=>(o1.block j (old j (by simp [hj]))).trans (b1.block j (by have:=HLT.out j (by simp [hj]); rw [HZ.out]; omega)))
 have BB:Below w.heap.size w wb:=(HA.out _).trans (b1.mono (by rw [HZ.out]; omega))
 have M1:=Lib.hid m1
 have M2:=Lib.hid m2
 have M3:=Lib.hid m3
 have O1:=Lib.hid o1
 have Z1:=Lib.hid z1
 have HBB:=Lib.hid BB
 have HO4:=Lib.hid O4
 have HO5:=Lib.hid O5
 have HBK:=Lib.hid B1
 have HOLD:=Lib.hid old
 clear m1 m2 m3 o1 z1 b1 BB O4 O5 B1 old
 go_wp2_with fail
 rw [show (k0:Int)+((x.control.term.data.length:Int)+(bJ fJ x.control.term.kids:Nat))+(x.control.env.length:Nat)=((k0+(x.control.term.data.length+bJ fJ x.control.term.kids)+x.control.env.length:Nat):Int) from by omega]
 refine (anr A4 n4 c4 (k0+(x.control.term.data.length+bJ fJ x.control.term.kids)+x.control.env.length) x.stack x4 w1 HO4.out N1.out.2.1 (by omega) (by omega)).mono ?_
 rintro e w2 ⟨rfl,m4,o2⟩
 have hbk2:w.heap.size ∉ x4:=fun hin=>by have:=HLT.out w.heap.size (by simp [hin]); omega
 have B2:dD w2 w.heap.size 44 #[.int .i64 x.control.term.kind,.int .i64 x.control.term.value,.slice A1 n1 c1,.slice A2 n2 c2,.slice A3 n3 c3,.slice A4 n4 c4,.slice A5 n5 c5]:=(o2.block _ hbk2).trans HBK.out
 have g00:=B2.cell
 have O5:iV fD 6 w2 A5 n5 x.heap x5:=HO5.out.keep aS (fun j hj=>o2.block j (fun hin=>N0.out.2.2 j (by simp [hin]) j hj rfl))
 have M4:=Lib.hid m4
 have O2:=Lib.hid o2
 have aZN:=Lib.hid O5
 clear m4 o2 O5 B2 g0
 go_wp2_with fail
 rw [show (k0:Int)+((x.control.term.data.length:Int)+(bJ fJ x.control.term.kids:Nat))+(x.control.env.length:Nat)+(bJ cntF x.stack:Nat)=((k0+(x.control.term.data.length+bJ fJ x.control.term.kids)+x.control.env.length+bJ cntF x.stack:Nat):Int) from by omega]
 refine (ant A5 n5 c5 (k0+(x.control.term.data.length+bJ fJ x.control.term.kids)+x.control.env.length+bJ cntF x.stack) x.heap x5 w2 aZN.out N0.out.2.1 (by omega) (by omega)).mono ?_
 rintro e w3 ⟨rfl,m5,o3⟩
 have M5:=Lib.hid m5
 have O3:=Lib.hid o3
 clear m5 o3
 go_wp2_with fail
 go_ret
 have nd:=N0.out
 have nd1:=N1.out
 have OO:Only (x1 ++ x2 ++ x3 ++ x4 ++ x5) wb w3:=((O1.out.mono (fun j hj=>List.mem_append_left _ (List.mem_append_left _ hj))).trans (O2.out.mono (fun j hj=>List.mem_append_left _ (List.mem_append_right _ hj)))).trans (O3.out.mono (fun j hj=>List.mem_append_right _ hj))
 have st :∀j,j∈x1 ++ x2 ++ x3→w3.heap[j]? = w1.heap[j]?:=fun j hj=>(O3.out.block j (fun hin=>nd.2.2 j (List.mem_append_left _ hj) j hin rfl)).trans (O2.out.block j (fun hin=>nd1.2.2 j hj j hin rfl))
 refine ⟨congrArg (fun z=>Ending.returned (Value.int .i64 z)) (by unfold ahI; omega),wb,HBB.out,OO.size.symm,OO.in_ HB.out,⟨_,x1 ++ x2 ++ x3 ++ x4 ++ x5,rfl,⟨A1,n1,c1,A2,n2,c2,A3,n3,c3,A4,n4,c4,A5,n5,c5,x1,x2,x3,x4,x5,rfl,⟨?_,r1⟩,⟨?_,r2⟩,⟨?_,r3⟩,⟨?_,r4⟩,⟨?_,r5⟩,rfl⟩,HN.out,HB.out⟩⟩
 ·exact M1.out.keep gW (fun j hj=>st j (by simp [hj]))
 ·exact M2.out.keep aC (fun j hj=>st j (by simp [hj]))
 ·exact M3.out.keep gW (fun j hj=>st j (by simp [hj]))
 ·exact M4.out.keep aQ (fun j hj=>O3.out.block j (fun hin=>nd.2.2 j (by simp [hj]) j hin rfl))
 ·exact M5.out
theorem atJ (v:Value) (x:aN) (w:World) (k:Int) (lo hi:Nat) (h:OwT Ji w v x lo hi) (hh:hi≤w.heap.size) (hs:qo x≤1048576) (h0:0≤k) (hk:k≤16777216) :
  Calls Tryz.prog 13 #[v,.int .i64 k] w fun e w'=>∃m:Nat,e=.returned (.int .i64 (m:Int))∧∃wb,Below w.heap.size w wb∧wb.heap.size=w'.heap.size∧Qy lo hi wb w':=by
 obtain ⟨k0,rfl⟩:=Int.eq_ofNat_of_zero_le h0
 exact (ahJ v x w k0 lo hi h hh hs (by omega)).mono fun e w' ⟨he,wb,h1,h2,h3,_⟩=>⟨_,he,wb,h1,h2,h3⟩
end
section
open Go.RowKit
theorem anJ {X b l bs fp:List Nat} (h:(X ++ b).Nodup) (hs :∀q∈X ++ b,q∈bs) (nd:l.Nodup) (sb :∀q∈l,q∈fp) (D:Ap bs fp):(X ++ l).Nodup∧∀q∈X ++ l,q∈X ++ b ∨ q∈fp:=by
 obtain ⟨h1,h2,h3⟩:=List.nodup_append.1 h
 refine ⟨List.nodup_append.2 ⟨h1,nd,fun p hp q hq e=>?_⟩,fun q hq=>?_⟩
 ·subst e; exact D p (hs p (by simp [hp])) (sb p hq)
 ·rcases List.mem_append.1 hq with h|h
  ·exact .inl (by simp [h])
  ·exact .inr (sb q h)
theorem awL {P:Program} {c1 rest:Code} {Q:Exit→Act→World→Prop} {n:Nat} {f:Nat→Value} {w:World} (K:(Nat→Value)→World→Prop) (hK :∀f' w',K f' w'→rest.wp P Q (Fr n f') w')
  (aL3:(∀f' w',K f' w'→rest.wp P Q (Fr n f') w')→(Code.seq c1 rest).wp P Q (Fr n f) w):(Code.seq c1 rest).wp P Q (Fr n f) w:=aL3 hK
section
variable {P : Program} {ops : Array Oper} {f : Nat → Value} {rest : List Oper} {Q : (Nat → Value) → World → Prop} {w : World} {d : Option Tmp} {ty : TypeId} {pos : String} {af : Array Edge} {g : Option (Nat × Bool)} {x y : Operand} {t e : TypeId} {z : Value} {sz bb : Nat}
theorem RL.anK {α:Type} {O:Ow α} {v:Value} {xs:List α} {lo k n c b j:Nat} {a a':α} {bs fp:List Nat} (ok:BM O sz) (hg:gV f ops ⟨d,.store t x y,ty,pos,af,g⟩=true) (hx:ev f x=.pointer (some ⟨b,0+k * sz+j,none⟩)) (hy:ev f y=v)
  (hv:aH e O sz w lo (.slice (some ⟨b,0,none⟩) n c) xs bs) (hk:xs[k]? = some a) (hj:j < sz) (hO :∀{cs l},O w cs a l→l.Nodup→(∀q∈l,q∈bs)→∃l',O w (cs.set j v) a' l'∧l'.Nodup∧∀q∈l',q∈l ∨ q∈fp) (D:Ap bs fp) (hf :∀q∈fp,lo≤q∧q < w.heap.size) (h1:v.oneCell'=true) (hc:v.cells = #[v]) (hs:(P.info? t).map (·.size)=some 1)
  (h :∀w1,aH e O sz w1 lo (.slice (some ⟨b,0,none⟩) n c) (xs.set k a') (bs ++ fp)→Only [b] w w1→RL P ops Q rest (ED f d undef) w1):RL P ops Q (⟨d,.store t x y,ty,pos,af,g⟩ :: rest) f w:=by
 refine .inl ⟨hg,?_⟩
 cases hi:P.info? t with
 |none=>rw [hi] at hs; cases hs
 |some inf=>
  rw [hi] at hs
  simp only [Option.map_some,Option.some.injEq] at hs
  obtain ⟨cells,ib,q1,q2,q3,q4,q5,q6⟩:=hv
  rcases q1.2 with ⟨h0,hl0⟩|⟨b',cap,cur,hv,hlo,hh,m1,m2,m3,m4⟩
  ·cases h0
  ·injection hv with e1 e2 e3
   injection e1 with e1
   injection e1 with e1
   subst e1 e2 e3
   obtain ⟨c1,cs,c2,i1,b1,i2,f1,f2,f3,f4,f5⟩:=q2.split ok hk
   have hkl:=lt_of_some hk
   have hcl:=ok.len f3
   have hcs:cells.length=xs.length * sz:=q1.1
   have hkc:k * sz+sz≤xs.length * sz:=by
    have:=Nat.mul_le_mul_right sz (show k+1≤xs.length from hkl)
    rw [Nat.add_mul] at this; omega
   have hcc:xs.length * sz≤cur.size:=by rw [m3]; exact Nat.mul_le_mul_right _ m1
   have hst:=run_storeCells_at (P:=P) b (k * sz+j) e [v] 0 cur w hh (by simp; omega) (fun u hu=>by simp at hu; subst hu; exact h1)
   have hr:(execOp (ev f) ⟨d,.store t x y,ty,pos,af,g⟩).run P w=.ok .skip (w.setRow b (cur.toList.take (k * sz+j) ++ [v] ++ cur.toList.drop (k * sz+j+1)).toArray):=by
    simp only [Nat.add_zero] at hst
    simp [execOp,hx,hy,Instr.storeAt,Instr.sureAddr,storeVar,sizeOf,typeInfo,hi,hc,hs,hst]
   rw [hr]
   have hb0:=q5 b rfl
   have hon:=Gp w b (cur.toList.take (k * sz+j) ++ [v] ++ cur.toList.drop (k * sz+j+1)).toArray
   have hib:=hb0.2
   rw [f4] at q3 q4 hib
   obtain ⟨n1,n2,n3⟩:=List.nodup_append.1 q3
   obtain ⟨n4,n5,n6⟩:=List.nodup_append.1 n2
   have hi1 :∀q∈i1,q∈bs:=fun q hq=>q4 q (by simp [hq])
   have hi2 :∀q∈i2,q∈bs:=fun q hq=>q4 q (by simp [hq])
   have aRQ :∀q∈b1,q∈bs:=fun q hq=>q4 q (by simp [hq])
   obtain ⟨l',g1,g2,g3⟩:=hO f3 n4 aRQ
   have hnb :∀q∈i1 ++ (b1 ++ i2),q ≠ b:=fun q hq e=>hib (by rw [← e]; exact hq)
   have hlb :∀q∈l',q ≠ b:=fun q hq e=>by
    rcases g3 q hq with h|h
    ·exact hnb q (by simp [h]) e
    ·exact D b hb0.1 (by rw [← e]; exact h)
   have hall :∀q∈i1 ++ (l' ++ i2),q ≠ b:=fun q hq=>by
    simp only [List.mem_append] at hq
    rcases hq with hq|hq|hq
    ·exact hnb q (by simp [hq])
    ·exact hlb q hq
    ·exact hnb q (by simp [hq])
   refine h _ ⟨c1 ++ cs.set j v ++ c2,i1 ++ (l' ++ i2),⟨?_,.inr ⟨b,c,_,by rw [List.length_set],hlo,setRow_heap w b cur _ e _ hh,by rw [List.length_set]; exact m1,m2,?_,?_⟩⟩,?_,?_,?_,?_,?_⟩ hon
   ·rw [f1] at hcs
    simp only [List.length_append,List.length_set] at hcs ⊢
    exact hcs
   ·simp only [List.size_toArray,List.length_append,List.length_take,List.length_drop,Array.length_toList,List.length_cons,List.length_nil]
    rw [← m3]; omega
   ·rw [List.length_set]
    have hsp:=KT (A:=cur.toList) (E:=[v]) (p:=k * sz+j) (L:=xs.length * sz) (by simp; omega) (by simpa using hcc)
    simp only [List.length_cons,List.length_nil,Nat.zero_add] at hsp
    show List.take (xs.length * sz) (cur.toList.take (k * sz+j) ++ [v] ++ cur.toList.drop (k * sz+j+1))=_
    rw [hsp,m4,f1]
    have e5:(c1 ++ cs ++ c2).take (k * sz+j)=c1 ++ cs.take j:=by
     rw [List.append_assoc,← f2,List.take_length_add_append,List.take_append_of_le_length (by omega)]
    have e6:(c1 ++ cs ++ c2).drop (k * sz+j+1)=cs.drop (j+1) ++ c2:=by
     rw [List.append_assoc,← f2,Nat.add_assoc,List.drop_length_add_append,List.drop_append_of_le_length (by omega)]
    rw [e5,e6,List.set_eq_take_append_cons_drop,if_pos (by omega)]
    simp [List.append_assoc]
   ·have hkeep :∀b',b' ≠ b→(w.setRow b (cur.toList.take (k * sz+j) ++ [v] ++ cur.toList.drop (k * sz+j+1)).toArray).heap[b']? = w.heap[b']?:=fun b' hb'=>hon.block b' (by intro hin; simp at hin; exact hb' hin)
    exact f5 _ _ _ _ (fun b' hb'=>hkeep b' (hall b' (by simp only [List.mem_append] at hb' ⊢; rcases hb' with h|h <;> simp [h]))) (ok.keep (fun b' hb'=>hkeep b' (hlb b' hb')) g1)
   ·refine List.nodup_append.2 ⟨n1,List.nodup_append.2 ⟨g2,n5,fun p hp q hq e=>?_⟩,fun p hp q hq e=>?_⟩
    ·subst e
     rcases g3 p hp with h|h
     ·exact n6 p h p hq rfl
     ·exact D p (hi2 p hq) h
    ·subst e
     rcases List.mem_append.1 hq with hq|hq
     ·rcases g3 p hq with h|h
      ·exact n3 p hp p (by simp [h]) rfl
      ·exact D p (hi1 p hp) h
     ·exact n3 p hp p (by simp [hq]) rfl
   ·intro q hq
    simp only [List.mem_append] at hq ⊢
    rcases hq with hq|hq|hq
    ·exact .inl (hi1 q hq)
    ·rcases g3 q hq with h|h
     ·exact .inl (aRQ q h)
     ·exact .inr h
    ·exact .inl (hi2 q hq)
   ·intro q hq
    simp [Value.ownBlock] at hq
    subst hq
    exact ⟨List.mem_append_left _ hb0.1,fun hin=>hall b hin rfl⟩
   ·intro q hq
    rw [hon.size]
    rcases List.mem_append.1 hq with hq|hq
    ·exact q6 q hq
    ·exact hf q hq
end
section
variable {P : Program} {C : World → Prop} {f : Nat → Value} {d : Option Tmp} {ty : TypeId} {pos : String} {af : Array Edge} {g : Option (Nat × Bool)} {x y : Operand} {t t' : TypeId}
theorem Y.aCm {x2 x3 x4:Operand} {i1 i2 i3 i4:Nat} {v1 v2 v3 v4:Value} {cells:Array Value} (h0:ev f x=v1) (h1:ev f x2=v2) (h2:ev f x3=v3) (h3:ev f x4=v4) (hs:aam P t=true)
  (hb:aal P t [(i1,v1),(i2,v2),(i3,v3),(i4,v4)] = some cells) :
  Y P C f ⟨d,.build t #[(i1,x),(i2,x2),(i3,x3),(i4,x4)],ty,pos,af,g⟩ (.agg cells):=fun w _=>by
 subst h0 h1 h2 h3
 simp [execOp,run_build (parts:=#[(i1,ev f x),(i2,ev f x2),(i3,ev f x3),(i4,ev f x4)]) hs hb]
end
end
section
open Go.RowKit
/-- What holds of the world: S1 as long as operation k has not come up, S2 always. -/
def PhB (S1 S2:World→Prop) (ph:Bool) (w:World):Prop:=(ph=false→S1 w)∧S2 w
section
variable {P : Program} {ops : Array Oper} {Q : Exit → Act → World → Prop} {S1 S2 C : World → Prop} {k : Nat}
/-- Whatever order is picked, and what holds of the world goes on holding. -/
def aqm (P:Program) (ops:Array Oper) (Q:Exit→Act→World→Prop) (S1 S2:World→Prop) (k:Nat):Nat→Array Bool→Act→World→Prop
 |0,listed,a,w=>Region.ready .any ops listed=[]∧Q .normal a w
 |m+1,listed,a,w=>(Region.ready .any ops listed=[]→Q .normal a w)∧∀i∈Region.ready .any ops listed,
   wpOp P ops Q i (fun a' w'=>PhB S1 S2 ((listed.setIfInBounds i true).getD k true) w'∧aqm P ops Q S1 S2 k m (listed.setIfInBounds i true) a' w') a w
theorem aqn :∀(m:Nat) (listed:Array Bool) (a:Act) (w:World),aqm P ops Q S1 S2 k m listed a w→wpAny P .any ops Q m listed a w
 |0,_,_,_,h=>h
 |m+1,_,_,_,h=>⟨h.1,fun i hi=>wpOp_mono (fun a' w' h'=>aqn m _ a' w' h'.2) (h.2 i hi)⟩
/-- An operation that only looks is taken first: its value is the same wherever C holds, and C holds until it comes up. -/
theorem ahK {i:Nat} {oi:Oper} {v:Value} {Inv:Array Bool→Prop} (hi:ops[i]? = some oi) (hs:Region.noSelect ops=true) (hQ :∀c a w,Q (.panic c) (a.put oi.dst v) w→Q (.panic c) a w) (hik:i ≠ k)
  (hC :∀l w,Inv l→PhB S1 S2 (l.getD k true) w→C w) (hI :∀l j,Inv l→l.getD i true=false→j∈Region.ready .any ops l→j ≠ i→Inv (l.setIfInBounds j true)) :
  ∀(m:Nat) (listed:Array Bool) (a:Act) (w:World),Inv listed→(∀j oj,ops[j]? = some oj→j ≠ i→listed.getD j true=false→(∀e∈oj.after,Region.binds .any e=true→e.on ≠ i)→oi.apart ops oj=true)→
   i∈Region.ready .any ops listed→YieldsIf P ops C oi v a→PhB S1 S2 (listed.getD k true) w→aqm P ops Q S1 S2 k m (listed.setIfInBounds i true) (a.put oi.dst v) w→aqm P ops Q S1 S2 k (m+1) listed a w:=by
 have hk :∀l:Array Bool,(l.setIfInBounds i true).getD k true=l.getD k true:=fun l=>getD_set_ne true hik
 have own :∀m listed a w,Inv listed→YieldsIf P ops C oi v a→PhB S1 S2 (listed.getD k true) w→aqm P ops Q S1 S2 k m (listed.setIfInBounds i true) (a.put oi.dst v) w→
   wpOp P ops Q i (fun a' w'=>PhB S1 S2 ((listed.setIfInBounds i true).getD k true) w'∧aqm P ops Q S1 S2 k m (listed.setIfInBounds i true) a' w') a w:=
  fun m listed a w hv hy hS H=>hy.wpOp hi (hC _ _ hv hS) ⟨by rw [hk]; exact hS,H⟩
 intro m
 induction m with
 |zero=>
  intro listed a w hv hfree hr hy hS H
  refine ⟨fun h=>absurd hr (by rw [h]; exact List.not_mem_nil),fun j hj=>?_⟩
  by_cases e:j=i
  ·subst e; exact own 0 listed a w hv hy hS H
  ·exact absurd (ready_mono hj e) (by rw [H.1]; exact List.not_mem_nil)
 |succ m ih=>
  intro listed a w hv hfree hr hy hS H
  refine ⟨fun h=>absurd hr (by rw [h]; exact List.not_mem_nil),fun j hj=>?_⟩
  by_cases e:j=i
  ·subst e; exact own (m+1) listed a w hv hy hS H
  ·obtain ⟨hi0,_⟩:=mem_ready.1 hr
   obtain ⟨hj0,oj,hoj,hall⟩:=mem_ready.1 hj
   have hno :∀x∈oj.after,Region.binds .any x=true→x.on ≠ i:=fun x hx hb he=>by
    have h1:=hall x hx hb
    rw [he] at h1
    by_cases hl:i < listed.size
    ·simp [hl] at h1 hi0; rw [hi0] at h1; cases h1
    ·simp [Array.getElem?_eq_none (Nat.not_lt.1 hl)] at h1
   have h2:=wpOp_putIf hoj (hfree j oj hoj e hj0 hno) (fun cs b=>Region.noSelect_spec hs i oi cs b hi) (fun cs b=>Region.noSelect_spec hs j oj cs b hoj) hQ hy (H.2 j (ready_mono hj e))
   refine wpOp_mono (fun a' w' h3=>?_) h2
   obtain ⟨hy',hS',h4⟩:=h3
   have hcomm:(listed.setIfInBounds i true).setIfInBounds j true=(listed.setIfInBounds j true).setIfInBounds i true:=(Array.setIfInBounds_comm _ _ (Ne.symm e))
   have hS2:PhB S1 S2 ((listed.setIfInBounds j true).getD k true) w':=by rw [hcomm,hk] at hS'; exact hS'
   refine ⟨hS2,ih _ a' w' (hI _ _ hv hi0 hj e) (fun q oq hq hqi hq0 hqn=>hfree q oq hq hqi ?_ hqn) (ready_mono hr (Ne.symm e)) hy' hS2 (by rw [hcomm] at h4; exact h4)⟩
   by_cases hjq:j=q
   ·subst hjq; exact hj0
   ·rw [getD_set_ne true hjq] at hq0; exact hq0
end
inductive OX where
 |nil|q (i:Nat) (r:OX)|e (i:Nat) (r:OX)|a (i:Nat) (r:OX)|two (i:Nat) (r1:OX) (j:Nat) (r2:OX)
def OX.len:OX→Nat
 |.nil=>0
 |.q _ r=>r.len+1
 |.e _ r=>r.len+1
 |.a _ r=>r.len+1
 |.two _ r1 _ _=>r1.len+1
section
variable {P : Program} {ops : Array Oper} {S1 S2 : World → Prop} {k : Nat}
def amD (P:Program) (ops:Array Oper) (C:World→Prop) (i:Nat) (K:(Nat→Value)→Prop) (f:Nat→Value):Prop:=
 match ops[i]? with
 |none=>False
 |some o=>∃v,((gV f ops o=true∧∀w,C w→(execOp (ev f) o).run P w=.ok (.value v) w) ∨ (gV f ops o=false∧v=undef))∧K (ED f o.dst v)
def RX (P:Program) (ops:Array Oper) (S1 S2:World→Prop) (k:Nat) (Q:(Nat→Value)→World→Prop):OX→Bool→(Nat→Value)→World→Prop
 |.nil,_,f,w=>Q f w
 |.q i r,ph,f,w=>amD P ops S2 i (fun f'=>RX P ops S1 S2 k Q r ph f' w) f
 |.e i r,ph,f,w=>amD P ops (fun w=>S1 w∧S2 w) i (fun f'=>RX P ops S1 S2 k Q r ph f' w) f
 |.a i r,ph,f,w=>Gt P ops (fun f' w'=>PhB S1 S2 (ph||i==k) w'∧RX P ops S1 S2 k Q r (ph||i==k) f' w') i f w
 |.two i r1 j r2,ph,f,w=>Gt P ops (fun f' w'=>PhB S1 S2 (ph||i==k) w'∧RX P ops S1 S2 k Q r1 (ph||i==k) f' w') i f w∧Gt P ops (fun f' w'=>PhB S1 S2 (ph||j==k) w'∧RX P ops S1 S2 k Q r2 (ph||j==k) f' w') j f w
def aCn (ops:Array Oper) (k i:Nat):Bool:=((ops[k]?).map (·.after.any fun e=>Region.binds .any e && e.on==i)).getD false
def agd (ops:Array Oper) (k:Nat):OX→Array Bool→Bool
 |.nil,listed=>(Region.ready .any ops listed).isEmpty
 |.q i r,listed=>(Region.ready .any ops listed).contains i && Region.free .any ops listed i && !(i==k) && agd ops k r (listed.setIfInBounds i true)
 |.e i r,listed=>(Region.ready .any ops listed).contains i && Region.free .any ops listed i && !(i==k) && !(listed.getD k true) && aCn ops k i && agd ops k r (listed.setIfInBounds i true)
 |.a i r,listed=>decide (Region.ready .any ops listed=[i]) && agd ops k r (listed.setIfInBounds i true)
 |.two i r1 j r2,listed=>decide (Region.ready .any ops listed=[i,j]) && agd ops k r1 (listed.setIfInBounds i true) && agd ops k r2 (listed.setIfInBounds j true) && decide (r1.len=r2.len)
theorem aL4 {listed:Array Bool} {i k:Nat} (hk:k < listed.size):(listed.setIfInBounds i true).getD k true=(listed.getD k true||i==k):=by
 by_cases e:i=k
 ·subst e; simp [hk]
 ·rw [getD_set_ne true e]; simp [e]
theorem anL {n:Nat} {Q':Exit→Act→World→Prop} (hok :∀(i:Nat) (o:Oper),ops[i]? = some o→afU n ops o=true) {K:(Nat→Value)→World→Prop} {K2:Act→World→Prop} {f:Nat→Value} {w:World} {j:Nat}
  (hK :∀f w,K f w→K2 (Fr n f) w) (h:Gt P ops K j f w):wpOp P ops Q' j K2 (Fr n f) w:=by
 unfold Gt at h
 cases ho:ops[j]? with
 |none=>rw [ho] at h; exact h.elim
 |some o=>
  rw [ho] at h
  have hk:=hok j o ho
  unfold wpOp
  rw [ho]
  simp only
  rw [vW hk]
  have key :∀v w',K (ED f o.dst v) w'→K2 ((Fr n f).put o.dst v) w':=fun v w' h1=>by
   rw [Nw]; exact hK _ _ h1
  rcases h with ⟨hw,h⟩|⟨hw,h1⟩
  ·rw [hw,if_pos rfl]
   left
   unfold Oper.wp
   rw [MJ hk]
   refine anh ?_
   revert h
   generalize (execOp (ev f) o).run P w=r
   intro h
   cases r with
   |ok nx w'=>
    cases nx <;> simp only [OpX] at h ⊢ <;> try exact key _ _ h
    case enter g args=>exact h.mono fun e w'' ⟨v,he,hk⟩=>⟨v,he,key _ _ hk⟩
   |halt x w'=>simp only [OpX] at h
  ·rw [hw,if_neg (by decide)]
   exact key _ _ h1
theorem ayi {n:Nat} {Q:(Nat→Value)→World→Prop} {Q':Exit→Act→World→Prop} (hQ :∀f w,Q f w→Q' .normal (Fr n f) w) (hP :∀c a w,¬ Q' (.panic c) a w) (hsel:Region.noSelect ops=true) (hok :∀(i:Nat) (o:Oper),ops[i]? = some o→afU n ops o=true) :
  ∀(l:OX) (listed:Array Bool) (f:Nat→Value) (w:World),k < listed.size→agd ops k l listed=true→PhB S1 S2 (listed.getD k true) w→RX P ops S1 S2 k Q l (listed.getD k true) f w→aqm P ops Q' S1 S2 k l.len listed (Fr n f) w
 |.nil,listed,f,w,hsz,hB,hS,h=>⟨by simpa [agd] using hB,hQ f w h⟩
 |.q i rest,listed,f,w,hsz,hB,hS,h=>by
  simp only [agd,Bool.and_eq_true,Bool.not_eq_true',beq_eq_false_iff_ne] at hB
  obtain ⟨⟨⟨hr,hf⟩,hik⟩,hB⟩:=hB
  unfold RX amD at h
  cases ho:ops[i]? with
  |none=>rw [ho] at h; exact h.elim
  |some o=>
   rw [ho] at h
   obtain ⟨v,h1,h2⟩:=h
   have hk:=hok i o ho
   have hkk:(listed.setIfInBounds i true).getD k true=listed.getD k true:=getD_set_ne true hik
   refine ahK (C:=S2) (Inv:=fun _=>True) (v:=v) ho hsel (fun c a w h=>absurd h (hP c _ w)) hik (fun l w _ h=>h.2) (fun _ _ _ _ _ _=>trivial) rest.len listed _ w trivial (Region.free_spec ho hf) (by simpa using hr) ?_ hS ?_
   ·rcases h1 with ⟨hw,h1⟩|⟨hw,e⟩
    ·exact .inl ⟨by rw [vW hk]; exact hw,fun w hw'=>by rw [MJ hk]; exact h1 w hw'⟩
    ·exact .inr ⟨by rw [vW hk]; exact hw,e⟩
   ·rw [Nw]
    exact ayi hQ hP hsel hok rest _ _ w (by simpa using hsz) hB (by rw [hkk]; exact hS) (by rw [hkk]; exact h2)
 |.e i rest,listed,f,w,hsz,hB,hS,h=>by
  simp only [agd,Bool.and_eq_true,Bool.not_eq_true',beq_eq_false_iff_ne] at hB
  obtain ⟨⟨⟨⟨⟨hr,hf⟩,hik⟩,hph⟩,hwt⟩,hB⟩:=hB
  unfold RX amD at h
  cases ho:ops[i]? with
  |none=>rw [ho] at h; exact h.elim
  |some o=>
   rw [ho] at h
   obtain ⟨v,h1,h2⟩:=h
   have hk:=hok i o ho
   have hkk:(listed.setIfInBounds i true).getD k true=listed.getD k true:=getD_set_ne true hik
   refine ahK (C:=fun w=>S1 w∧S2 w) (Inv:=fun l=>l.getD k true=false) (v:=v) ho hsel (fun c a w h=>absurd h (hP c _ w)) hik (fun l w hl h=>⟨h.1 hl,h.2⟩) (fun l j hl hi0 hj hji=>?_) rest.len listed _ w hph (Region.free_spec ho hf) (by simpa using hr) ?_ hS ?_
   ·by_cases e:j=k
    ·subst e
     obtain ⟨_,oj,hoj,hall⟩:=mem_ready.1 hj
     unfold aCn at hwt
     rw [hoj] at hwt
     simp only [Option.map_some,Option.getD_some] at hwt
     obtain ⟨x,hx,hb⟩:=Array.any_eq_true'.1 hwt
     simp only [Bool.and_eq_true,beq_iff_eq] at hb
     have h3:=hall x hx hb.1
     rw [hb.2] at h3
     by_cases hl2:i < l.size
     ·simp [hl2] at h3 hi0; rw [hi0] at h3; cases h3
     ·simp [Array.getElem?_eq_none (Nat.not_lt.1 hl2)] at h3
    ·rw [getD_set_ne true e]; exact hl
   ·rcases h1 with ⟨hw,h1⟩|⟨hw,e⟩
    ·exact .inl ⟨by rw [vW hk]; exact hw,fun w hw'=>by rw [MJ hk]; exact h1 w hw'⟩
    ·exact .inr ⟨by rw [vW hk]; exact hw,e⟩
   ·rw [Nw]
    exact ayi hQ hP hsel hok rest _ _ w (by simpa using hsz) hB (by rw [hkk]; exact hS) (by rw [hkk]; exact h2)
 |.a i rest,listed,f,w,hsz,hB,hS,h=>by
  simp only [agd,Bool.and_eq_true,decide_eq_true_eq] at hB
  obtain ⟨hr,hB⟩:=hB
  refine ⟨fun h0=>absurd (h0.symm.trans hr) (by simp),fun j hj=>?_⟩
  obtain rfl:j=i:=by rw [hr] at hj; simpa using hj
  refine anL hok (fun f w hK=>?_) h
  rw [← aL4 hsz] at hK
  exact ⟨hK.1,ayi hQ hP hsel hok rest _ _ w (by simpa using hsz) hB hK.1 hK.2⟩
 |.two i r1 j r2,listed,f,w,hsz,hB,hS,h=>by
  simp only [agd,Bool.and_eq_true,decide_eq_true_eq] at hB
  obtain ⟨⟨⟨hr,hB1⟩,hB2⟩,hl⟩:=hB
  refine ⟨fun h0=>absurd (h0.symm.trans hr) (by simp),fun q hq=>?_⟩
  have hq':q=i ∨ q=j:=by rw [hr] at hq; simpa using hq
  rcases hq' with rfl|rfl
  ·refine anL hok (fun f w hK=>?_) h.1
   rw [← aL4 hsz] at hK
   exact ⟨hK.1,ayi hQ hP hsel hok r1 _ _ w (by simpa using hsz) hB1 hK.1 hK.2⟩
  ·refine anL hok (fun f w hK=>?_) h.2
   rw [← aL4 hsz] at hK
   refine ⟨hK.1,?_⟩
   show aqm P ops Q' S1 S2 k r1.len _ _ _
   rw [hl]
   exact ayi hQ hP hsel hok r2 _ _ w (by simpa using hsz) hB2 hK.1 hK.2
theorem Ux {id n:Nat} {l:List Oper} {f:Nat→Value} {w:World} {Q:Exit→Act→World→Prop} (S1 S2:World→Prop) (k:Nat) (ord:OX) (hm:P.follows .mixedOrders=true)
  (hin:(abb n l && Region.noSelect l.toArray && decide (ord.len=l.length) && decide (k < l.length) && agd l.toArray k ord (Array.replicate l.length false))=true)
  (h :∀w1,Below w.heap.size w w1→w1.heap.size=w.heap.size→(S1 w1∧S2 w1)∧RX P l.toArray S1 S2 k (fun f' w'=>Q .normal (Fr n f') w') ord false f w1):(Code.region id l.toArray true).wp P Q (Fr n f) w:=by
 simp only [Bool.and_eq_true,decide_eq_true_eq] at hin
 obtain ⟨⟨⟨⟨h1,h2⟩,h3⟩,hk⟩,h4⟩:=hin
 refine Code.wp_mono (Q:=noP Q) (fun e a w hq=>by cases e <;> first|exact hq|exact hq.elim) ?_
 refine wp_region_any hm (aqn (S1:=S1) (S2:=S2) (k:=k) _ _ _ _ ?_)
 obtain ⟨hS,hR⟩:=h { w with drawn:=w.drawn+1 } ⟨rfl,rfl,rfl,Nat.le_refl _,fun _ _=>rfl⟩ rfl
 have hf:(Array.replicate l.length false).getD k true=false:=by simp [hk]
 have:=ayi (Q':=noP Q) (n:=n) (k:=k) (S1:=S1) (S2:=S2) (fun f w h=>h) (fun c a w h=>h) h2 (fun i o ho=>List.all_eq_true.1 h1 o (by
  have:l[i]? = some o:=by simpa using ho
  exact List.mem_of_getElem? this)) ord (Array.replicate l.length false) f _ (by simpa using hk) h4 (by rw [hf]; exact ⟨fun _=>hS.1,hS.2⟩) (by rw [hf]; exact hR)
 rw [h3] at this
 simpa using this
variable {Q : (Nat → Value) → World → Prop} {rest r2 : OX} {f : Nat → Value} {w : World} {i j : Nat} {o o2 : Oper} {ph : Bool}
theorem RX.nil_ (h:Q f w):RX P ops S1 S2 k Q .nil ph f w:=h
theorem RX.y {v:Value} (ho:ops[i]? = some o) (hg:gV f ops o=true) (hy:Y P S2 f o v) (h:RX P ops S1 S2 k Q rest ph (ED f o.dst v) w):RX P ops S1 S2 k Q (.q i rest) ph f w:=by
 unfold RX amD; rw [ho]; exact ⟨v,.inl ⟨hg,hy⟩,h⟩
theorem RX.e {v:Value} (ho:ops[i]? = some o) (hg:gV f ops o=true) (hy:Y P (fun w=>S1 w∧S2 w) f o v) (h:RX P ops S1 S2 k Q rest ph (ED f o.dst v) w):RX P ops S1 S2 k Q (.e i rest) ph f w:=by
 unfold RX amD; rw [ho]; exact ⟨v,.inl ⟨hg,hy⟩,h⟩
/-- An operation that acts, ahead of operation k; operation k itself; one behind it. -/
theorem RX.act (ho:ops[i]? = some o) (hk:(i==k)=false) (h:RL P ops (fun f' w'=>(S1 w'∧S2 w')∧RX P ops S1 S2 k Q rest false f' w') [o] f w):RX P ops S1 S2 k Q (.a i rest) false f w:=by
 show Gt P ops (fun f' w'=>PhB S1 S2 (false||i==k) w'∧RX P ops S1 S2 k Q rest (false||i==k) f' w') i f w
 rw [hk]
 have e:(fun f' w'=>PhB S1 S2 (false||false) w'∧RX P ops S1 S2 k Q rest (false||false) f' w')=fun f' w'=>(S1 w'∧S2 w')∧RX P ops S1 S2 k Q rest false f' w':=by
  funext f' w'
  simp [PhB]
 rw [e]
 exact Gt.of ho h
theorem RX.anM (ho:ops[i]? = some o) (hk:(i==k)=true) (h:RL P ops (fun f' w'=>S2 w'∧RX P ops S1 S2 k Q rest true f' w') [o] f w):RX P ops S1 S2 k Q (.a i rest) false f w:=by
 show Gt P ops (fun f' w'=>PhB S1 S2 (false||i==k) w'∧RX P ops S1 S2 k Q rest (false||i==k) f' w') i f w
 rw [hk]
 have e:(fun f' w'=>PhB S1 S2 (false||true) w'∧RX P ops S1 S2 k Q rest (false||true) f' w')=fun f' w'=>S2 w'∧RX P ops S1 S2 k Q rest true f' w':=by
  funext f' w'
  simp [PhB]
 rw [e]
 exact Gt.of ho h
end
end
section
open Go.RowKit
set_option maxRecDepth 100000
noncomputable def qY (i1:Int):Option Int:=
  some i1
noncomputable def vJ (nM:(List ak)→Int→Option Int) (d0:List ak) (eU:Int→Int→Option Int) (K1:Int→Option Int) (i3:Int) (i4:Int):Option Int:=
  (bif (decide (i4 < (d0.length:Int))) then ((fC d0 i4).bind fun x7=>(bif (x7.kind != i3) then some (-1) else ((ck (i3+1)).bind fun s19=>((fC d0 i4).bind fun x20=>(bif (x20.value != s19) then some (-1) else ((ck (s19+1)).bind fun s30=>((fC d0 i4).bind fun x31=>((iJ x31.data s30).bind fun y40=>(bif (decide (y40 < 0)) then some (-1) else ((fC d0 i4).bind fun x45=>((nM x45.kids y40).bind fun y54=>(bif (decide (y54 < 0)) then some (-1) else (eU y54 (i4+1)))))))))))))) else (K1 i3))
noncomputable def jL (nM:(List ak)→Int→Option Int) (d0:List ak) (K1:Int→Option Int):Nat→Int→Int→Option Int
  |0,_,_=>none
  |g+1,i3,i4=>vJ nM d0 (jL nM d0 K1 g) K1 i3 i4
noncomputable def xq (nM:(List ak)→Int→Option Int) (iZ:ak→Int→Option Int) (d0:List ak) (d1:Int):Option Int:=
  (jL nM d0 qY (d0.length+1) d1 0)
set_option maxHeartbeats 2000000 in
theorem Xl (nM:(List ak)→Int→Option Int) (iZ:ak→Int→Option Int) (ih0 :∀(d0:List ak) (d1:Int) (r:Int) (hm:nM d0 d1=some r) (v0:Value) (w:World) (hv0:Sl bf 4 w v0 d0),Calls Tryz.prog 74 #[v0,.int .i64 d1] w fun e w'=>e=.returned (.int .i64 r)∧Below w.heap.size w w') (ih1 :∀(d0:ak) (d1:Int) (r:Int) (hm:iZ d0 d1=some r) (v0:Value) (w:World) (hv0:St bf w v0 d0),Calls Tryz.prog 72 #[v0,.int .i64 d1] w fun e w'=>e=.returned (.int .i64 r)∧Below w.heap.size w w') :∀(d0:List ak) (d1:Int) (r:Int) (hm:xq nM iZ d0 d1=some r) (v0:Value) (w:World) (hv0:Sl bf 4 w v0 d0),
    Calls Tryz.prog 74 #[v0,.int .i64 d1] w fun e w'=>e=.returned (.int .i64 r)∧Below w.heap.size w w':=by
  intro d0 d1 r hm v0 w hv0;obtain ⟨Bc,na0,ca0,rfl,ha0,GN⟩:=hv0;obtain ⟨rfl,qa0⟩:=bI ha0 GN;have T:=Below.refl w.heap.size w;unfold xq at hm;refine enter 49 Tryz.func74 rfl rfl rfl ?_;intro f hf;have s0:f 0=.slice Bc d0.length ca0:=hf 0 _ rfl;have s1:f 1=.int .i64 d1:=hf 1 _ rfl;refine wp_seq<|au rfl<|aW (.int .i64 0)<|RQ.nil<|ah<|wp_seq<|wp_seq<|au rfl<|aW (.int .i64 0)<|RQ.nil<|ah<|wp_block ?_;obtain ⟨K1,hK1,hm⟩ :∃K,K=qY∧jL nM d0 K (d0.length+1) d1 0=some r:=⟨_,rfl,hm⟩;refine dG (fun g f w'=>∃(i3:Int) (i4:Int),f 0=.slice Bc d0.length ca0∧f 1=.int .i64 i3∧f 5=.int .i64 i4∧0≤i4∧Below w.heap.size w w'∧jL nM d0 K1 g i3 i4=some r) 0 (fun f w'=>∃(i1:Int),f 1=.int .i64 i1∧Below w.heap.size w w'∧qY i1=some r) (d0.length+1) ⟨d1,0,s0,s1,rfl,(by omega),T,hm⟩ ?_ ?_
  ·rintro f w2 ⟨i1,BO,T,hm⟩;unfold qY at hm;refine dW (ah ?_);refine wp_seq<|au rfl<|aT BO<|aW (.int .i64 i1)<|RQ.nil<|ah<|wp_ret ?_
   cases hm
   exact (aV rfl rfl rfl ⟨rfl,T⟩)
  rintro g f w5 ⟨i3,i4,dQ,iF,jD,P6,T,hm⟩;rcases g with _|g
  ·simp only [jL] at hm; cases hm
  obtain ⟨eU,d_,hm⟩ :∃z,z=jL nM d0 K1 g∧vJ nM d0 z K1 i3 i4=some r:=⟨_,rfl,hm⟩;unfold vJ at hm;refine wp_seq<|wp_seq<|au rfl<|aT jD<|aT dQ<|yH rfl<|iq (.bool (decide (i4 < (d0.length:Int))))<|RQ.nil<|ah ?_;rcases aB (decide (i4 < (d0.length:Int))) with c6|c6
  ·replace hm:=cF c6 hm;have pc6:=of_decide_eq_false c6;refine iH c6<|wp_exit ?_;exact (bQ (bQ (iW ⟨_,rfl,⟨i3,iF,T,(by rw [hK1] at hm; exact hm)⟩⟩)))
  replace hm:=cT c6 hm;have pc6:=of_decide_eq_true c6;refine ig c6<|wp_skip<|ah<|wp_seq<|wp_block<|wp_seq<|wp_seq<|au rfl<|aT dQ<|aT jD ?_;obtain ⟨x7,aap,hm⟩:=bnd hm;obtain ⟨k8,asP,hl12,aap⟩:=aU aap;obtain ⟨b14,o15,rfl,az9⟩:=ha0.addr (by omega);obtain ⟨cs9,WM,hc13⟩:=ha0.el aap;have az_:=WM;obtain ⟨A16,n16,c16,A17,n17,c17,rfl,⟨h16,r16⟩,⟨h17,r17⟩⟩:=(bG WM);obtain ⟨rfl,q16⟩:=bI h16 r16;obtain ⟨rfl,q17⟩:=bI h17 r17;refine RQ.y rfl (Y.indexAddr (m:=k8) (sz:=4) rfl rfl asP hl12 (by kernel_rfl))<|gy 0 rfl<|gZ (.int .i64 x7.kind) rfl (cu (cellT T (hc13 0 _ rfl)))<|aT iF<|iq (.bool (x7.kind != i3))<|RQ.nil<|ah ?_;rcases aB (x7.kind != i3) with c18|c18
  ·replace hm:=cF c18 hm;refine iH c18<|wp_skip<|ah<|wp_seq<|au rfl<|aT iF ?_;obtain ⟨s19,aHc,hm⟩:=bnd hm;replace aHc:=jg aHc;refine uZ (.int .i64 s19) rfl rfl (by rw [bn aHc.2,aHc.1])<|aW (.int .i64 s19)<|RQ.nil<|ah<|wp_seq<|wp_seq<|au rfl<|aT dQ<|aT jD ?_;obtain ⟨x20,ata,hm⟩:=bnd hm;obtain ⟨k21,aLd,aLe,ata⟩:=aU ata;obtain ⟨aYC,ahl,axH⟩:=ha0.el ata;have aLh:=ahl;obtain ⟨A27,n27,Vx,A28,n28,c28,rfl,⟨h27,r27⟩,⟨h28,r28⟩⟩:=(bG ahl);obtain ⟨rfl,q27⟩:=bI h27 r27;obtain ⟨rfl,q28⟩:=bI h28 r28;refine RQ.y rfl (Y.indexAddr (m:=k21) (sz:=4) rfl rfl aLd aLe (by kernel_rfl))<|gy 1 rfl<|gZ (.int .i64 x20.value) rfl (cu (cellT T (axH 1 _ rfl)))<|dF (.int .i64 s19)<|iq (.bool (x20.value != s19))<|RQ.nil<|ah ?_;rcases aB (x20.value != s19) with c29|c29
   ·replace hm:=cF c29 hm;refine iH c29<|wp_skip<|ah<|wp_seq<|au rfl<|dF (.int .i64 s19) ?_;obtain ⟨s30,aHd,hm⟩:=bnd hm;replace aHd:=jg aHd;refine uZ (.int .i64 s30) rfl rfl (by rw [bn aHd.2,aHd.1])<|aW (.int .i64 s30)<|RQ.nil<|ah<|wp_seq<|cZ rfl<|aT dQ<|aT jD ?_;obtain ⟨x31,hx34,hm⟩:=bnd hm;obtain ⟨k32,aZO,aZP,hx34⟩:=aU hx34;obtain ⟨bbo,aCo,aZQ⟩:=ha0.el hx34;have aZR:=aCo;obtain ⟨A38,n38,GK,A39,n39,Vy,rfl,⟨h38,r38⟩,⟨h39,r39⟩⟩:=(bG aCo);obtain ⟨rfl,q38⟩:=bI h38 r38;obtain ⟨rfl,q39⟩:=bI h39 r39;refine RQ.y rfl (Y.indexAddr (m:=k32) (sz:=4) rfl rfl aZO aZP (by kernel_rfl))<|gy 2 rfl<|gZ (.slice A38 x31.data.length GK) rfl (bV (cellT T (aZQ 2 _ rfl)))<|dF (.int .i64 s30) ?_;obtain ⟨y40,e41,hm⟩:=bnd hm;refine RQ.call rfl (qV rfl rfl) (by kernel_rfl) (v:=.int .i64 y40) (bel (K:=fun _=>True) fun w' hb'=>(lH x31.data s30 _ e41 _ w' (eY aG h38 r38 (Tt T hb'))))<|aW (.int .i64 y40)<|RQ.nil ?_;intro w42 WR;have ap0:=WR.size;have T:=Tt T WR;refine ah<|wp_seq<|wp_seq<|au rfl<|dF (.int .i64 y40)<|iq (.bool (decide (y40 < 0)))<|RQ.nil<|ah ?_;rcases aB (decide (y40 < 0)) with Uh|Uh
    ·replace hm:=cF Uh hm;have pc44:=of_decide_eq_false Uh;refine iH Uh<|wp_skip<|ah<|wp_seq<|cZ rfl<|aT dQ<|aT jD ?_;obtain ⟨x45,ahC,hm⟩:=bnd hm;obtain ⟨k46,ax4,aBV,ahC⟩:=aU ahC;obtain ⟨aZS,ahL,aL5⟩:=ha0.el ahC;have aL6:=ahL;obtain ⟨A52,n52,JR,Zi,n53,c53,rfl,⟨h52,r52⟩,⟨h53,r53⟩⟩:=(bG ahL);obtain ⟨rfl,q52⟩:=bI h52 r52;obtain ⟨rfl,q53⟩:=bI h53 r53;refine RQ.y rfl (Y.indexAddr (m:=k46) (sz:=4) rfl rfl ax4 aBV (by kernel_rfl))<|gy 3 rfl<|gZ (.slice Zi x45.kids.length c53) rfl (bV (cellT T (aL5 3 _ rfl)))<|dF (.int .i64 y40) ?_;obtain ⟨y54,e55,hm⟩:=bnd hm;refine RQ.call rfl (qV rfl rfl) (by kernel_rfl) (v:=.int .i64 y54) (bel (K:=fun _=>True) fun w' hb'=>(ih0 x45.kids y40 _ e55 _ w' (eY aK h53 r53 (Tt T hb'))))<|aW (.int .i64 y54)<|RQ.nil ?_;intro w56 aj6;have aP6:=aj6.size;have T:=Tt T aj6;refine ah<|wp_seq<|au rfl<|dF (.int .i64 y54)<|iq (.bool (decide (y54 < 0)))<|RQ.nil<|ah ?_;rcases aB (decide (y54 < 0)) with c58|c58
     ·replace hm:=cF c58 hm;have aZT:=of_decide_eq_false c58;refine iH c58<|wp_skip ?_;refine eF (ah ?_);refine au rfl<|aT jD<|RQ.y rfl (Y.dS rfl rfl (bn (m:=i4) (by omega)))<|aW (.int .i64 (i4+1))<|RQ.nil ?_;exact (ah ⟨g,_,Nat.lt_succ_self _,rfl,⟨y54,(i4+1),dQ,rfl,rfl,(by omega),T,(by rw [← d_]; exact hm)⟩⟩)
     replace hm:=cT c58 hm;have aZT:=of_decide_eq_true c58;refine ig c58<|wp_seq<|au rfl<|aW (.int .i64 (-1))<|RQ.nil<|ah<|wp_ret ?_
     cases hm
     exact (bC (aF (aF (jG (bC (aF (aV rfl rfl rfl ⟨rfl,T⟩)))))))
    replace hm:=cT Uh hm;have pc44:=of_decide_eq_true Uh;refine ig Uh<|wp_seq<|au rfl<|aW (.int .i64 (-1))<|RQ.nil<|ah<|wp_ret ?_
    cases hm
    exact (aF (bC (aF (aF (jG (bC (aF (aV rfl rfl rfl ⟨rfl,T⟩))))))))
   replace hm:=cT c29 hm;refine ig c29<|wp_seq<|au rfl<|aW (.int .i64 (-1))<|RQ.nil<|ah<|wp_ret ?_
   cases hm
   exact (aF (bC (aF (aF (jG (bC (aF (aV rfl rfl rfl ⟨rfl,T⟩))))))))
  replace hm:=cT c18 hm;refine ig c18<|wp_seq<|au rfl<|aW (.int .i64 (-1))<|RQ.nil<|ah<|wp_ret ?_
  cases hm
  exact (aF (bC (aF (aF (jG (bC (aF (aV rfl rfl rfl ⟨rfl,T⟩))))))))
noncomputable def zA (nM:(List ak)→Int→Option Int) (iZ:ak→Int→Option Int) (d0:ak) (d1:Int):Option Int:=
  ((iJ d0.data d1).bind fun y7=>(bif (decide (y7 < 0)) then some (-1) else ((nM d0.kids y7).bind fun YK=>(bif (decide (YK < 0)) then some (-1) else some YK))))
set_option maxHeartbeats 2000000 in
theorem Zn (nM:(List ak)→Int→Option Int) (iZ:ak→Int→Option Int) (ih0 :∀(d0:List ak) (d1:Int) (r:Int) (hm:nM d0 d1=some r) (v0:Value) (w:World) (hv0:Sl bf 4 w v0 d0),Calls Tryz.prog 74 #[v0,.int .i64 d1] w fun e w'=>e=.returned (.int .i64 r)∧Below w.heap.size w w') (ih1 :∀(d0:ak) (d1:Int) (r:Int) (hm:iZ d0 d1=some r) (v0:Value) (w:World) (hv0:St bf w v0 d0),Calls Tryz.prog 72 #[v0,.int .i64 d1] w fun e w'=>e=.returned (.int .i64 r)∧Below w.heap.size w w') :∀(d0:ak) (d1:Int) (r:Int) (hm:zA nM iZ d0 d1=some r) (v0:Value) (w:World) (hv0:St bf w v0 d0),
    Calls Tryz.prog 72 #[v0,.int .i64 d1] w fun e w'=>e=.returned (.int .i64 r)∧Below w.heap.size w w':=by
  intro d0 d1 r hm v0 w hv0;obtain ⟨lg,rfl,hRR0⟩:=hv0;obtain ⟨A1,n1,c1,A2,n2,c2,rfl,⟨h1,r1⟩,⟨h2,r2⟩⟩:=(bG hRR0);obtain ⟨rfl,q1⟩:=bI h1 r1;obtain ⟨rfl,q2⟩:=bI h2 r2;have T:=Below.refl w.heap.size w;unfold zA at hm;refine enter 18 Tryz.func72 rfl rfl rfl ?_;intro f hf;have s0:f 0=.agg #[.int .i64 d0.kind,.int .i64 d0.value,.slice A1 d0.data.length c1,.slice A2 d0.kids.length c2]:=hf 0 _ rfl;have s1:f 1=.int .i64 d1:=hf 1 _ rfl;refine wp_seq<|bF rfl ?_;refine RL.box rfl s0 (fun w3 B4 hb5 LP=>?_);replace B4:dD w3 w.heap.size 38 #[.int .i64 d0.kind,.int .i64 d0.value,.slice A1 d0.data.length c1,.slice A2 d0.kids.length c2]:=B4;have GB4:w.heap.size≤w.heap.size:=T.size;have T:=Tt T hb5;refine Ez (.int .i64 0)<|RL.nil<|ah<|wp_seq<|cZ rfl<|gy 2 rfl<|gZ (.slice A1 d0.data.length c1) rfl (bV (aj B4 (i:=2) rfl))<|aT s1 ?_;obtain ⟨y7,e8,hm⟩:=bnd hm;refine RQ.call rfl (qV rfl rfl) (by kernel_rfl) (v:=.int .i64 y7) (bel (K:=fun _=>True) fun w' hb'=>(lH d0.data d1 _ e8 _ w' (eY aG h1 r1 (Tt T hb'))))<|aW (.int .i64 y7)<|RQ.nil ?_;intro w9 Au;have B4:=aX B4 Au;have T:=Tt T Au;refine ah<|wp_seq<|wp_seq<|au rfl<|dF (.int .i64 y7)<|iq (.bool (decide (y7 < 0)))<|RQ.nil<|ah ?_;rcases aB (decide (y7 < 0)) with c11|c11
  ·replace hm:=cF c11 hm;have atc:=of_decide_eq_false c11;refine iH c11<|wp_skip<|ah<|wp_seq<|cZ rfl<|gy 3 rfl<|gZ (.slice A2 d0.kids.length c2) rfl (bV (aj B4 (i:=3) rfl))<|dF (.int .i64 y7) ?_;obtain ⟨YK,e13,hm⟩:=bnd hm;refine RQ.call rfl (qV rfl rfl) (by kernel_rfl) (v:=.int .i64 YK) (bel (K:=fun _=>True) fun w' hb'=>(ih0 d0.kids y7 _ e13 _ w' (eY aK h2 r2 (Tt T hb'))))<|aW (.int .i64 YK)<|RQ.nil ?_;intro WQ PL;have T:=Tt T PL;refine ah<|wp_seq<|wp_seq<|au rfl<|dF (.int .i64 YK)<|iq (.bool (decide (YK < 0)))<|RQ.nil<|ah ?_;rcases aB (decide (YK < 0)) with c16|c16
   ·replace hm:=cF c16 hm;have aLQ:=of_decide_eq_false c16;refine iH c16<|wp_skip<|ah<|wp_seq<|au rfl<|dF (.int .i64 YK)<|aW (.int .i64 YK)<|RQ.nil<|ah<|wp_ret ?_
    cases hm
    exact (aV rfl rfl rfl ⟨rfl,T⟩)
   replace hm:=cT c16 hm;have aLQ:=of_decide_eq_true c16;refine ig c16<|wp_seq<|au rfl<|aW (.int .i64 (-1))<|RQ.nil<|ah<|wp_ret ?_
   cases hm
   exact (aF (aV rfl rfl rfl ⟨rfl,T⟩))
  replace hm:=cT c11 hm;have atc:=of_decide_eq_true c11;refine ig c11<|wp_seq<|au rfl<|aW (.int .i64 (-1))<|RQ.nil<|ah<|wp_ret ?_
  cases hm
  exact (aF (aV rfl rfl rfl ⟨rfl,T⟩))
noncomputable def sS:Nat→((List ak)→Int→Option Int) × (ak→Int→Option Int)
 |0=>(fun _ _=>none,fun _ _=>none)
 |dJ+1=>(xq (sS dJ).1 (sS dJ).2,zA (sS dJ).1 (sS dJ).2)
noncomputable def nC (dJ:Nat):(List ak)→Int→Option Int:=(sS dJ).1
noncomputable def uX (dJ:Nat):ak→Int→Option Int:=(sS dJ).2
theorem Ld :∀dJ:Nat,(∀(d0:List ak) (d1:Int) (r:Int) (hm:nC dJ d0 d1=some r) (v0:Value) (w:World) (hv0:Sl bf 4 w v0 d0),Calls Tryz.prog 74 #[v0,.int .i64 d1] w fun e w'=>e=.returned (.int .i64 r)∧Below w.heap.size w w')∧(∀(d0:ak) (d1:Int) (r:Int) (hm:uX dJ d0 d1=some r) (v0:Value) (w:World) (hv0:St bf w v0 d0),Calls Tryz.prog 72 #[v0,.int .i64 d1] w fun e w'=>e=.returned (.int .i64 r)∧Below w.heap.size w w'):=by
 intro dJ
 induction dJ with
 |zero=>exact ⟨(fun _ _ r hm=>by have h0:(none:Option _)=some r:=hm; cases h0),(fun _ _ r hm=>by have h0:(none:Option _)=some r:=hm; cases h0)⟩
 |succ dJ ih=>exact ⟨Xl _ _ (ih).1 (ih).2,Zn _ _ (ih).1 (ih).2⟩
theorem Oa (dJ : Nat) : ∀ (d0 : List ak) (d1 : Int) (r : Int) (hm : nC dJ d0 d1 = some r) (v0 : Value) (w : World) (hv0 : Sl bf 4 w v0 d0), Calls Tryz.prog 74 #[v0, .int .i64 d1] w fun e w' => e = .returned (.int .i64 r) ∧ Below w.heap.size w w' := (Ld dJ).1
theorem abM (dJ : Nat) : ∀ (d0 : ak) (d1 : Int) (r : Int) (hm : uX dJ d0 d1 = some r) (v0 : Value) (w : World) (hv0 : St bf w v0 d0), Calls Tryz.prog 72 #[v0, .int .i64 d1] w fun e w' => e = .returned (.int .i64 r) ∧ Below w.heap.size w w' := (Ld dJ).2
noncomputable def BD (d0:ay) (d1:Int):Option Int:=
  ((uX (SizeOf.sizeOf (⟨d0.term.kind,d0.term.value,d0.term.data,d0.term.kids⟩:ak)) (⟨d0.term.kind,d0.term.value,d0.term.data,d0.term.kids⟩:ak) d1).bind fun y8=>(bif (decide (y8 < 0)) then some (-1) else ((iJ d0.env y8).bind fun y13=>(bif (decide (y13 < 0)) then some (-1) else some y13))))
set_option maxHeartbeats 2000000 in
theorem Xm (d0:ay) (d1:Int) (r:Int) (hm:BD d0 d1=some r) (v0:Value) (w:World) (hv0:St dM w v0 d0) :
    Calls Tryz.prog 38 #[v0,.int .i64 d1] w fun e w'=>e=.returned (.int .i64 r)∧Below w.heap.size w w':=by
  obtain ⟨lg,rfl,⟨A1,n1,c1,A2,n2,c2,A3,n3,c3,rfl,⟨h1,r1⟩,⟨h2,r2⟩,⟨h3,r3⟩⟩⟩:=hv0;obtain ⟨rfl,q1⟩:=bI h1 r1;obtain ⟨rfl,q2⟩:=bI h2 r2;obtain ⟨rfl,q3⟩:=bI h3 r3;have T:=Below.refl w.heap.size w;unfold BD at hm;refine enter 18 Tryz.func38 rfl rfl rfl ?_;intro f hf;have s0:f 0=.agg #[.int .i64 d0.term.kind,.int .i64 d0.term.value,.slice A1 d0.term.data.length c1,.slice A2 d0.term.kids.length c2,.slice A3 d0.env.length c3]:=hf 0 _ rfl;have s1:f 1=.int .i64 d1:=hf 1 _ rfl;refine wp_seq<|bF rfl ?_;refine RL.box rfl s0 (fun w4 B5 hb6 aha=>?_);replace B5:dD w4 w.heap.size 40 #[.int .i64 d0.term.kind,.int .i64 d0.term.value,.slice A1 d0.term.data.length c1,.slice A2 d0.term.kids.length c2,.slice A3 d0.env.length c3]:=B5;have GB5:w.heap.size≤w.heap.size:=T.size;have T:=Tt T hb6;refine Ez (.int .i64 0)<|RL.nil<|ah<|wp_seq<|cZ rfl<|gy 0 rfl<|LC [.int .i64 d0.term.kind,.int .i64 d0.term.value,.slice A1 d0.term.data.length c1,.slice A2 d0.term.kids.length c2] rfl (cells4 (bV (aj B5 (i:=0) rfl)) (bV (aj B5 (i:=1) rfl)) (bV (aj B5 (i:=2) rfl)) (bV (aj B5 (i:=3) rfl)))<|aT s1 ?_;obtain ⟨y8,e9,hm⟩:=bnd hm;refine RQ.call rfl (qV rfl rfl) (by kernel_rfl) (v:=.int .i64 y8) (bel (K:=fun _=>True) fun w' hb'=>(abM (SizeOf.sizeOf (⟨d0.term.kind,d0.term.value,d0.term.data,d0.term.kids⟩:ak)) (⟨d0.term.kind,d0.term.value,d0.term.data,d0.term.kids⟩:ak) d1 _ e9 _ w' (fE (R:=bf) (dR ⟨_,_,_,_,_,_,rfl,⟨aY.now aG h1 (dB) (Tt T hb'),r1⟩,⟨aY.now aK h2 (dB) (Tt T hb'),r2⟩⟩))))<|aW (.int .i64 y8)<|RQ.nil ?_;intro w10 Bo;have B5:=aX B5 Bo;have T:=Tt T Bo;refine ah<|wp_seq<|wp_seq<|au rfl<|dF (.int .i64 y8)<|iq (.bool (decide (y8 < 0)))<|RQ.nil<|ah ?_;rcases aB (decide (y8 < 0)) with c12|c12
  ·replace hm:=cF c12 hm;have ahf:=of_decide_eq_false c12;refine iH c12<|wp_skip<|ah<|wp_seq<|cZ rfl<|gy 4 rfl<|gZ (.slice A3 d0.env.length c3) rfl (bV (aj B5 (i:=4) rfl))<|dF (.int .i64 y8) ?_;obtain ⟨y13,e14,hm⟩:=bnd hm;refine RQ.call rfl (qV rfl rfl) (by kernel_rfl) (v:=.int .i64 y13) (bel (K:=fun _=>True) fun w' hb'=>(lH d0.env y8 _ e14 _ w' (eY aG h3 r3 (Tt T hb'))))<|aW (.int .i64 y13)<|RQ.nil ?_;intro w15 hb16;have T:=Tt T hb16;refine ah<|wp_seq<|wp_seq<|au rfl<|dF (.int .i64 y13)<|iq (.bool (decide (y13 < 0)))<|RQ.nil<|ah ?_;rcases aB (decide (y13 < 0)) with c17|c17
   ·replace hm:=cF c17 hm;have aLR:=of_decide_eq_false c17;refine iH c17<|wp_skip<|ah<|wp_seq<|au rfl<|dF (.int .i64 y13)<|aW (.int .i64 y13)<|RQ.nil<|ah<|wp_ret ?_
    cases hm
    exact (aV rfl rfl rfl ⟨rfl,T⟩)
   replace hm:=cT c17 hm;have aLR:=of_decide_eq_true c17;refine ig c17<|wp_seq<|au rfl<|aW (.int .i64 (-1))<|RQ.nil<|ah<|wp_ret ?_
   cases hm
   exact (aF (aV rfl rfl rfl ⟨rfl,T⟩))
  replace hm:=cT c12 hm;have ahf:=of_decide_eq_true c12;refine ig c12<|wp_seq<|au rfl<|aW (.int .i64 (-1))<|RQ.nil<|ah<|wp_ret ?_
  cases hm
  exact (aF (aV rfl rfl rfl ⟨rfl,T⟩))
noncomputable def o_ (i1:Int):Option Int:=
  some i1
noncomputable def t_ (d0:List aO) (eU:Int→Int→Option Int) (K1:Int→Option Int) (i3:Int) (i4:Int):Option Int:=
  (bif (decide (i4 < (d0.length:Int))) then ((fC d0 i4).bind fun x7=>(bif (x7.kind != i3) then some (-1) else ((ck (i3+1)).bind fun s21=>((fC d0 i4).bind fun x22=>(bif (x22.value != s21) then some (-1) else ((ck (s21+1)).bind fun s34=>((fC d0 i4).bind fun I5=>((iJ I5.data s34).bind fun y46=>(bif (decide (y46 < 0)) then some (-1) else ((fC d0 i4).bind fun x51=>(bif (x51.closure.term.kind != y46) then some (-1) else ((ck (y46+1)).bind fun s63=>((fC d0 i4).bind fun x64=>(bif (x64.closure.term.value != s63) then some (-1) else ((ck (s63+1)).bind fun s76=>((fC d0 i4).bind fun x77=>((iJ x77.closure.term.data s76).bind fun y88=>(bif (decide (y88 < 0)) then some (-1) else ((fC d0 i4).bind fun x93=>((nC (SizeOf.sizeOf x93.closure.term.kids) x93.closure.term.kids y88).bind fun y104=>(bif (decide (y104 < 0)) then some (-1) else ((fC d0 i4).bind fun aHe=>((iJ aHe.closure.env y104).bind fun anN=>(bif (decide (anN < 0)) then some (-1) else (eU anN (i4+1)))))))))))))))))))))))))) else (K1 i3))
noncomputable def jo (d0:List aO) (K1:Int→Option Int):Nat→Int→Int→Option Int
  |0,_,_=>none
  |g+1,i3,i4=>t_ d0 (jo d0 K1 g) K1 i3 i4
noncomputable def zB (d0:List aO) (d1:Int):Option Int:=
  (jo d0 o_ (d0.length+1) d1 0)
set_option maxHeartbeats 2000000 in
theorem Zo (d0:List aO) (d1:Int) (r:Int) (hm:zB d0 d1=some r) (v0:Value) (w:World) (hv0:Sl nS 8 w v0 d0) :
    Calls Tryz.prog 39 #[v0,.int .i64 d1] w fun e w'=>e=.returned (.int .i64 r)∧Below w.heap.size w w':=by
  obtain ⟨Bc,na0,ca0,rfl,ha0,GN⟩:=hv0;obtain ⟨rfl,qa0⟩:=bI ha0 GN;have T:=Below.refl w.heap.size w;unfold zB at hm;refine enter 94 Tryz.func39 rfl rfl rfl ?_;intro f hf;have s0:f 0=.slice Bc d0.length ca0:=hf 0 _ rfl;have s1:f 1=.int .i64 d1:=hf 1 _ rfl;refine wp_seq<|au rfl<|aW (.int .i64 0)<|RQ.nil<|ah<|wp_seq<|wp_seq<|au rfl<|aW (.int .i64 0)<|RQ.nil<|ah<|wp_block ?_;obtain ⟨K1,hK1,hm⟩ :∃K,K=o_∧jo d0 K (d0.length+1) d1 0=some r:=⟨_,rfl,hm⟩;refine dG (fun g f w'=>∃(i3:Int) (i4:Int),f 0=.slice Bc d0.length ca0∧f 1=.int .i64 i3∧f 5=.int .i64 i4∧0≤i4∧Below w.heap.size w w'∧jo d0 K1 g i3 i4=some r) 0 (fun f w'=>∃(i1:Int),f 1=.int .i64 i1∧Below w.heap.size w w'∧o_ i1=some r) (d0.length+1) ⟨d1,0,s0,s1,rfl,(by omega),T,hm⟩ ?_ ?_
  ·rintro f w2 ⟨i1,BO,T,hm⟩;unfold o_ at hm;refine dW (ah ?_);refine wp_seq<|au rfl<|aT BO<|aW (.int .i64 i1)<|RQ.nil<|ah<|wp_ret ?_
   cases hm
   exact (aV rfl rfl rfl ⟨rfl,T⟩)
  rintro g f w5 ⟨i3,i4,dQ,iF,jD,P6,T,hm⟩;rcases g with _|g
  ·simp only [jo] at hm; cases hm
  obtain ⟨eU,d_,hm⟩ :∃z,z=jo d0 K1 g∧t_ d0 z K1 i3 i4=some r:=⟨_,rfl,hm⟩;unfold t_ at hm;refine wp_seq<|wp_seq<|au rfl<|aT jD<|aT dQ<|yH rfl<|iq (.bool (decide (i4 < (d0.length:Int))))<|RQ.nil<|ah ?_;rcases aB (decide (i4 < (d0.length:Int))) with c6|c6
  ·replace hm:=cF c6 hm;have pc6:=of_decide_eq_false c6;refine iH c6<|wp_exit ?_;exact (bQ (bQ (iW ⟨_,rfl,⟨i3,iF,T,(by rw [hK1] at hm; exact hm)⟩⟩)))
  replace hm:=cT c6 hm;have pc6:=of_decide_eq_true c6;refine ig c6<|wp_skip<|ah<|wp_seq<|wp_block<|wp_seq<|wp_seq<|au rfl<|aT dQ<|aT jD ?_;obtain ⟨x7,aap,hm⟩:=bnd hm;obtain ⟨k8,asP,hl12,aap⟩:=aU aap;obtain ⟨b14,o15,rfl,az9⟩:=ha0.addr (by omega);obtain ⟨cs9,WM,hc13⟩:=ha0.el aap;have az_:=WM;obtain ⟨A16,n16,c16,A17,n17,c17,A18,n18,c18,A19,n19,c19,rfl,⟨h16,r16⟩,⟨h17,r17⟩,⟨h18,r18⟩,⟨h19,r19⟩⟩:=WM;obtain ⟨rfl,q16⟩:=bI h16 r16;obtain ⟨rfl,q17⟩:=bI h17 r17;obtain ⟨rfl,q18⟩:=bI h18 r18;obtain ⟨rfl,q19⟩:=bI h19 r19;refine RQ.y rfl (Y.indexAddr (m:=k8) (sz:=8) rfl rfl asP hl12 (by kernel_rfl))<|gy 0 rfl<|gZ (.int .i64 x7.kind) rfl (cu (cellT T (hc13 0 _ rfl)))<|aT iF<|iq (.bool (x7.kind != i3))<|RQ.nil<|ah ?_;rcases aB (x7.kind != i3) with c20|c20
  ·replace hm:=cF c20 hm;refine iH c20<|wp_skip<|ah<|wp_seq<|au rfl<|aT iF ?_;obtain ⟨s21,abh,hm⟩:=bnd hm;replace abh:=jg abh;refine uZ (.int .i64 s21) rfl rfl (by rw [bn abh.2,abh.1])<|aW (.int .i64 s21)<|RQ.nil<|ah<|wp_seq<|wp_seq<|au rfl<|aT dQ<|aT jD ?_;obtain ⟨x22,hx25,hm⟩:=bnd hm;obtain ⟨k23,aL7,aL8,hx25⟩:=aU hx25;obtain ⟨aZU,ahM,hc28⟩:=ha0.el hx25;have aL9:=ahM;obtain ⟨A29,n29,c29,A30,n30,PU,A31,n31,c31,A32,n32,c32,rfl,⟨h29,r29⟩,⟨h30,r30⟩,⟨h31,r31⟩,⟨h32,r32⟩⟩:=ahM;obtain ⟨rfl,q29⟩:=bI h29 r29;obtain ⟨rfl,q30⟩:=bI h30 r30;obtain ⟨rfl,q31⟩:=bI h31 r31;obtain ⟨rfl,q32⟩:=bI h32 r32;refine RQ.y rfl (Y.indexAddr (m:=k23) (sz:=8) rfl rfl aL7 aL8 (by kernel_rfl))<|gy 1 rfl<|gZ (.int .i64 x22.value) rfl (cu (cellT T (hc28 1 _ rfl)))<|dF (.int .i64 s21)<|iq (.bool (x22.value != s21))<|RQ.nil<|ah ?_;rcases aB (x22.value != s21) with LH|LH
   ·replace hm:=cF LH hm;refine iH LH<|wp_skip<|ah<|wp_seq<|au rfl<|dF (.int .i64 s21) ?_;obtain ⟨s34,aHf,hm⟩:=bnd hm;replace aHf:=jg aHf;refine uZ (.int .i64 s34) rfl rfl (by rw [bn aHf.2,aHf.1])<|aW (.int .i64 s34)<|RQ.nil<|ah<|wp_seq<|cZ rfl<|aT dQ<|aT jD ?_;obtain ⟨I5,hx38,hm⟩:=bnd hm;obtain ⟨k36,aLC,aLD,hx38⟩:=aU hx38;obtain ⟨aQ9,aaz,WZ⟩:=ha0.el hx38;have aLE:=aaz;obtain ⟨A42,n42,MQ,A43,n43,c43,A44,n44,Uh,A45,n45,ZF,rfl,⟨h42,r42⟩,⟨h43,r43⟩,⟨h44,r44⟩,⟨h45,r45⟩⟩:=aaz;obtain ⟨rfl,q42⟩:=bI h42 r42;obtain ⟨rfl,q43⟩:=bI h43 r43;obtain ⟨rfl,q44⟩:=bI h44 r44;obtain ⟨rfl,q45⟩:=bI h45 r45;refine RQ.y rfl (Y.indexAddr (m:=k36) (sz:=8) rfl rfl aLC aLD (by kernel_rfl))<|gy 2 rfl<|gZ (.slice A42 I5.data.length MQ) rfl (bV (cellT T (WZ 2 _ rfl)))<|dF (.int .i64 s34) ?_;obtain ⟨y46,e47,hm⟩:=bnd hm;refine RQ.call rfl (qV rfl rfl) (by kernel_rfl) (v:=.int .i64 y46) (bel (K:=fun _=>True) fun w' hb'=>(lH I5.data s34 _ e47 _ w' (eY aG h42 r42 (Tt T hb'))))<|aW (.int .i64 y46)<|RQ.nil ?_;intro w48 aqb;have aQs:=aqb.size;have T:=Tt T aqb;refine ah<|wp_seq<|wp_seq<|au rfl<|dF (.int .i64 y46)<|iq (.bool (decide (y46 < 0)))<|RQ.nil<|ah ?_;rcases aB (decide (y46 < 0)) with PX|PX
    ·replace hm:=cF PX hm;have aZV:=of_decide_eq_false PX;refine iH PX<|wp_skip<|ah<|wp_seq<|wp_seq<|au rfl<|aT dQ<|aT jD ?_;obtain ⟨x51,aL_,hm⟩:=bnd hm;obtain ⟨k52,aZW,aZX,aL_⟩:=aU aL_;obtain ⟨bbp,aCp,aZY⟩:=ha0.el aL_;have aZZ:=aCp;obtain ⟨A58,n58,c58,A59,n59,c59,A60,n60,c60,A61,n61,Ze,rfl,⟨h58,r58⟩,⟨h59,r59⟩,⟨h60,r60⟩,⟨h61,r61⟩⟩:=aCp;obtain ⟨rfl,q58⟩:=bI h58 r58;obtain ⟨rfl,q59⟩:=bI h59 r59;obtain ⟨rfl,q60⟩:=bI h60 r60;obtain ⟨rfl,q61⟩:=bI h61 r61;refine RQ.y rfl (Y.indexAddr (m:=k52) (sz:=8) rfl rfl aZW aZX (by kernel_rfl))<|gy 3 rfl<|gy 0 rfl<|gy 0 rfl<|gZ (.int .i64 x51.closure.term.kind) rfl (cu (cellT T (aZY 3 _ rfl)))<|dF (.int .i64 y46)<|iq (.bool (x51.closure.term.kind != y46))<|RQ.nil<|ah ?_;rcases aB (x51.closure.term.kind != y46) with c62|c62
     ·replace hm:=cF c62 hm;refine iH c62<|wp_skip<|ah<|wp_seq<|au rfl<|dF (.int .i64 y46) ?_;obtain ⟨s63,aHg,hm⟩:=bnd hm;replace aHg:=jg aHg;refine uZ (.int .i64 s63) rfl rfl (by rw [bn aHg.2,aHg.1])<|aW (.int .i64 s63)<|RQ.nil<|ah<|wp_seq<|wp_seq<|au rfl<|aT dQ<|aT jD ?_;obtain ⟨x64,aMa,hm⟩:=bnd hm;obtain ⟨k65,aZ0,aZ1,aMa⟩:=aU aMa;obtain ⟨bbq,aCq,aZ2⟩:=ha0.el aMa;have aZ3:=aCq;obtain ⟨A71,n71,c71,A72,n72,c72,A73,n73,c73,A74,n74,c74,rfl,⟨h71,r71⟩,⟨h72,r72⟩,⟨h73,r73⟩,⟨h74,r74⟩⟩:=aCq;obtain ⟨rfl,q71⟩:=bI h71 r71;obtain ⟨rfl,q72⟩:=bI h72 r72;obtain ⟨rfl,q73⟩:=bI h73 r73;obtain ⟨rfl,q74⟩:=bI h74 r74;refine RQ.y rfl (Y.indexAddr (m:=k65) (sz:=8) rfl rfl aZ0 aZ1 (by kernel_rfl))<|gy 3 rfl<|gy 0 rfl<|gy 1 rfl<|gZ (.int .i64 x64.closure.term.value) rfl (cu (cellT T (aZ2 4 _ rfl)))<|dF (.int .i64 s63)<|iq (.bool (x64.closure.term.value != s63))<|RQ.nil<|ah ?_;rcases aB (x64.closure.term.value != s63) with c75|c75
      ·replace hm:=cF c75 hm;refine iH c75<|wp_skip<|ah<|wp_seq<|au rfl<|dF (.int .i64 s63) ?_;obtain ⟨s76,aHh,hm⟩:=bnd hm;replace aHh:=jg aHh;refine uZ (.int .i64 s76) rfl rfl (by rw [bn aHh.2,aHh.1])<|aW (.int .i64 s76)<|RQ.nil<|ah<|wp_seq<|cZ rfl<|aT dQ<|aT jD ?_;obtain ⟨x77,aMb,hm⟩:=bnd hm;obtain ⟨k78,aZ4,aZ5,aMb⟩:=aU aMb;obtain ⟨bbr,aCr,aZ6⟩:=ha0.el aMb;have aZ7:=aCr;obtain ⟨A84,n84,c84,A85,n85,c85,A86,n86,c86,A87,n87,c87,rfl,⟨h84,r84⟩,⟨h85,r85⟩,⟨h86,r86⟩,⟨h87,r87⟩⟩:=aCr;obtain ⟨rfl,q84⟩:=bI h84 r84;obtain ⟨rfl,q85⟩:=bI h85 r85;obtain ⟨rfl,q86⟩:=bI h86 r86;obtain ⟨rfl,q87⟩:=bI h87 r87;refine RQ.y rfl (Y.indexAddr (m:=k78) (sz:=8) rfl rfl aZ4 aZ5 (by kernel_rfl))<|gy 3 rfl<|gy 0 rfl<|gy 2 rfl<|gZ (.slice A85 x77.closure.term.data.length c85) rfl (bV (cellT T (aZ6 5 _ rfl)))<|dF (.int .i64 s76) ?_;obtain ⟨y88,e89,hm⟩:=bnd hm;refine RQ.call rfl (qV rfl rfl) (by kernel_rfl) (v:=.int .i64 y88) (bel (K:=fun _=>True) fun w' hb'=>(lH x77.closure.term.data s76 _ e89 _ w' (eY aG h85 r85 (Tt T hb'))))<|aW (.int .i64 y88)<|RQ.nil ?_;intro w90 aRR;have a9K:=aRR.size;have T:=Tt T aRR;refine ah<|wp_seq<|wp_seq<|au rfl<|dF (.int .i64 y88)<|iq (.bool (decide (y88 < 0)))<|RQ.nil<|ah ?_;rcases aB (decide (y88 < 0)) with c92|c92
       ·replace hm:=cF c92 hm;have pc92:=of_decide_eq_false c92;refine iH c92<|wp_skip<|ah<|wp_seq<|cZ rfl<|aT dQ<|aT jD ?_;obtain ⟨x93,hx96,hm⟩:=bnd hm;obtain ⟨k94,aZ8,aZ9,hx96⟩:=aU hx96;obtain ⟨bbs,aCs,hc99⟩:=ha0.el hx96;have aZ_:=aCs;obtain ⟨aHi,n100,abN,ayj,n101,agf,a0a,n102,adZ,bbt,n103,ath,rfl,⟨a0b,a0c⟩,⟨a0d,a0e⟩,⟨aRS,aRT⟩,⟨a0f,a0g⟩⟩:=aCs;obtain ⟨rfl,bbu⟩:=bI a0b a0c;obtain ⟨rfl,bbv⟩:=bI a0d a0e;obtain ⟨rfl,bbw⟩:=bI aRS aRT;obtain ⟨rfl,bbx⟩:=bI a0f a0g;refine RQ.y rfl (Y.indexAddr (m:=k94) (sz:=8) rfl rfl aZ8 aZ9 (by kernel_rfl))<|gy 3 rfl<|gy 0 rfl<|gy 3 rfl<|gZ (.slice a0a x93.closure.term.kids.length adZ) rfl (bV (cellT T (hc99 6 _ rfl)))<|dF (.int .i64 y88) ?_;obtain ⟨y104,a0h,hm⟩:=bnd hm;refine RQ.call rfl (qV rfl rfl) (by kernel_rfl) (v:=.int .i64 y104) (bel (K:=fun _=>True) fun w' hb'=>(Oa (SizeOf.sizeOf x93.closure.term.kids) x93.closure.term.kids y88 _ a0h _ w' (eY aK aRS aRT (Tt T hb'))))<|aW (.int .i64 y104)<|RQ.nil ?_;intro bby aJC;have a0i:=aJC.size;have T:=Tt T aJC;refine ah<|wp_seq<|wp_seq<|au rfl<|dF (.int .i64 y104)<|iq (.bool (decide (y104 < 0)))<|RQ.nil<|ah ?_;rcases aB (decide (y104 < 0)) with ad1|ad1
        ·replace hm:=cF ad1 hm;have aRU:=of_decide_eq_false ad1;refine iH ad1<|wp_skip<|ah<|wp_seq<|cZ rfl<|aT dQ<|aT jD ?_;obtain ⟨aHe,hx112,hm⟩:=bnd hm;obtain ⟨a0j,aRV,aRW,hx112⟩:=aU hx112;obtain ⟨a9L,awM,hc115⟩:=ha0.el hx112;have aWI:=awM;obtain ⟨aHj,n116,c116,bbz,n117,c117,aHk,n118,bbA,aRX,n119,c119,rfl,⟨h116,a0k⟩,⟨a0l,a0m⟩,⟨a0n,a0o⟩,⟨h119,aHl⟩⟩:=awM;obtain ⟨rfl,bbB⟩:=bI h116 a0k;obtain ⟨rfl,bbC⟩:=bI a0l a0m;obtain ⟨rfl,bbD⟩:=bI a0n a0o;obtain ⟨rfl,a0p⟩:=bI h119 aHl;refine RQ.y rfl (Y.indexAddr (m:=a0j) (sz:=8) rfl rfl aRV aRW (by kernel_rfl))<|gy 3 rfl<|gy 4 rfl<|gZ (.slice aRX aHe.closure.env.length c119) rfl (bV (cellT T (hc115 7 _ rfl)))<|dF (.int .i64 y104) ?_;obtain ⟨anN,a0q,hm⟩:=bnd hm;refine RQ.call rfl (qV rfl rfl) (by kernel_rfl) (v:=.int .i64 anN) (bel (K:=fun _=>True) fun w' hb'=>(lH aHe.closure.env y104 _ a0q _ w' (eY aG h119 aHl (Tt T hb'))))<|aW (.int .i64 anN)<|RQ.nil ?_;intro a0r aJD;have aMc:=aJD.size;have T:=Tt T aJD;refine ah<|wp_seq<|au rfl<|dF (.int .i64 anN)<|iq (.bool (decide (anN < 0)))<|RQ.nil<|ah ?_;rcases aB (decide (anN < 0)) with c124|c124
         ·replace hm:=cF c124 hm;have aRY:=of_decide_eq_false c124;refine iH c124<|wp_skip ?_;refine eF (ah ?_);refine au rfl<|aT jD<|RQ.y rfl (Y.dS rfl rfl (bn (m:=i4) (by omega)))<|aW (.int .i64 (i4+1))<|RQ.nil ?_;exact (ah ⟨g,_,Nat.lt_succ_self _,rfl,⟨anN,(i4+1),dQ,rfl,rfl,(by omega),T,(by rw [← d_]; exact hm)⟩⟩)
         replace hm:=cT c124 hm;have aRY:=of_decide_eq_true c124;refine ig c124<|wp_seq<|au rfl<|aW (.int .i64 (-1))<|RQ.nil<|ah<|wp_ret ?_
         cases hm
         exact (bC (aF (aF (jG (bC (aF (aV rfl rfl rfl ⟨rfl,T⟩)))))))
        replace hm:=cT ad1 hm;have aRU:=of_decide_eq_true ad1;refine ig ad1<|wp_seq<|au rfl<|aW (.int .i64 (-1))<|RQ.nil<|ah<|wp_ret ?_
        cases hm
        exact (aF (bC (aF (aF (jG (bC (aF (aV rfl rfl rfl ⟨rfl,T⟩))))))))
       replace hm:=cT c92 hm;have pc92:=of_decide_eq_true c92;refine ig c92<|wp_seq<|au rfl<|aW (.int .i64 (-1))<|RQ.nil<|ah<|wp_ret ?_
       cases hm
       exact (aF (bC (aF (aF (jG (bC (aF (aV rfl rfl rfl ⟨rfl,T⟩))))))))
      replace hm:=cT c75 hm;refine ig c75<|wp_seq<|au rfl<|aW (.int .i64 (-1))<|RQ.nil<|ah<|wp_ret ?_
      cases hm
      exact (aF (bC (aF (aF (jG (bC (aF (aV rfl rfl rfl ⟨rfl,T⟩))))))))
     replace hm:=cT c62 hm;refine ig c62<|wp_seq<|au rfl<|aW (.int .i64 (-1))<|RQ.nil<|ah<|wp_ret ?_
     cases hm
     exact (aF (bC (aF (aF (jG (bC (aF (aV rfl rfl rfl ⟨rfl,T⟩))))))))
    replace hm:=cT PX hm;have aZV:=of_decide_eq_true PX;refine ig PX<|wp_seq<|au rfl<|aW (.int .i64 (-1))<|RQ.nil<|ah<|wp_ret ?_
    cases hm
    exact (aF (bC (aF (aF (jG (bC (aF (aV rfl rfl rfl ⟨rfl,T⟩))))))))
   replace hm:=cT LH hm;refine ig LH<|wp_seq<|au rfl<|aW (.int .i64 (-1))<|RQ.nil<|ah<|wp_ret ?_
   cases hm
   exact (aF (bC (aF (aF (jG (bC (aF (aV rfl rfl rfl ⟨rfl,T⟩))))))))
  replace hm:=cT c20 hm;refine ig c20<|wp_seq<|au rfl<|aW (.int .i64 (-1))<|RQ.nil<|ah<|wp_ret ?_
  cases hm
  exact (aF (bC (aF (aF (jG (bC (aF (aV rfl rfl rfl ⟨rfl,T⟩))))))))
noncomputable def pq (i1:Int):Option Int:=
  some i1
noncomputable def uf (d0:List bD) (eU:Int→Int→Option Int) (K1:Int→Option Int) (i3:Int) (i4:Int):Option Int:=
  (bif (decide (i4 < (d0.length:Int))) then ((fC d0 i4).bind fun x7=>(bif (x7.done != ((i3.tmod 3)==0)) then some (-1) else ((ck (i3+1)).bind fun s20=>((fC d0 i4).bind fun x21=>(bif (x21.closure.term.kind != s20) then some (-1) else ((ck (s20+1)).bind fun s32=>((fC d0 i4).bind fun x33=>(bif (x33.closure.term.value != s32) then some (-1) else ((ck (s32+1)).bind fun s44=>((fC d0 i4).bind fun x45=>((iJ x45.closure.term.data s44).bind fun y55=>(bif (decide (y55 < 0)) then some (-1) else ((fC d0 i4).bind fun x60=>((nC (SizeOf.sizeOf x60.closure.term.kids) x60.closure.term.kids y55).bind fun y70=>(bif (decide (y70 < 0)) then some (-1) else ((fC d0 i4).bind fun x75=>((iJ x75.closure.env y70).bind fun y85=>(bif (decide (y85 < 0)) then some (-1) else (eU y85 (i4+1)))))))))))))))))))) else (K1 i3))
noncomputable def jq (d0:List bD) (K1:Int→Option Int):Nat→Int→Int→Option Int
  |0,_,_=>none
  |g+1,i3,i4=>uf d0 (jq d0 K1 g) K1 i3 i4
noncomputable def zC (d0:List bD) (d1:Int):Option Int:=
  (jq d0 pq (d0.length+1) d1 0)
set_option maxHeartbeats 2000000 in
theorem Zp (d0:List bD) (d1:Int) (r:Int) (hm:zC d0 d1=some r) (v0:Value) (w:World) (hv0:Sl yQ 6 w v0 d0) :
    Calls Tryz.prog 40 #[v0,.int .i64 d1] w fun e w'=>e=.returned (.int .i64 r)∧Below w.heap.size w w':=by
  obtain ⟨Bc,na0,ca0,rfl,ha0,GN⟩:=hv0;obtain ⟨rfl,qa0⟩:=bI ha0 GN;have T:=Below.refl w.heap.size w;unfold zC at hm;refine enter 78 Tryz.func40 rfl rfl rfl ?_;intro f hf;have s0:f 0=.slice Bc d0.length ca0:=hf 0 _ rfl;have s1:f 1=.int .i64 d1:=hf 1 _ rfl;refine wp_seq<|au rfl<|aW (.int .i64 0)<|RQ.nil<|ah<|wp_seq<|wp_seq<|au rfl<|aW (.int .i64 0)<|RQ.nil<|ah<|wp_block ?_;obtain ⟨K1,hK1,hm⟩ :∃K,K=pq∧jq d0 K (d0.length+1) d1 0=some r:=⟨_,rfl,hm⟩;refine dG (fun g f w'=>∃(i3:Int) (i4:Int),f 0=.slice Bc d0.length ca0∧f 1=.int .i64 i3∧f 5=.int .i64 i4∧0≤i4∧Below w.heap.size w w'∧jq d0 K1 g i3 i4=some r) 0 (fun f w'=>∃(i1:Int),f 1=.int .i64 i1∧Below w.heap.size w w'∧pq i1=some r) (d0.length+1) ⟨d1,0,s0,s1,rfl,(by omega),T,hm⟩ ?_ ?_
  ·rintro f w2 ⟨i1,BO,T,hm⟩;unfold pq at hm;refine dW (ah ?_);refine wp_seq<|au rfl<|aT BO<|aW (.int .i64 i1)<|RQ.nil<|ah<|wp_ret ?_
   cases hm
   exact (aV rfl rfl rfl ⟨rfl,T⟩)
  rintro g f w5 ⟨i3,i4,dQ,iF,jD,P6,T,hm⟩;rcases g with _|g
  ·simp only [jq] at hm; cases hm
  obtain ⟨eU,d_,hm⟩ :∃z,z=jq d0 K1 g∧uf d0 z K1 i3 i4=some r:=⟨_,rfl,hm⟩;unfold uf at hm;refine wp_seq<|wp_seq<|au rfl<|aT jD<|aT dQ<|yH rfl<|iq (.bool (decide (i4 < (d0.length:Int))))<|RQ.nil<|ah ?_;rcases aB (decide (i4 < (d0.length:Int))) with c6|c6
  ·replace hm:=cF c6 hm;have pc6:=of_decide_eq_false c6;refine iH c6<|wp_exit ?_;exact (bQ (bQ (iW ⟨_,rfl,⟨i3,iF,T,(by rw [hK1] at hm; exact hm)⟩⟩)))
  replace hm:=cT c6 hm;have pc6:=of_decide_eq_true c6;refine ig c6<|wp_skip<|ah<|wp_seq<|wp_block<|wp_seq<|wp_seq<|au rfl<|aT dQ<|aT jD ?_;obtain ⟨x7,aap,hm⟩:=bnd hm;obtain ⟨k8,asP,hl12,aap⟩:=aU aap;obtain ⟨b14,o15,rfl,az9⟩:=ha0.addr (by omega);obtain ⟨cs9,WM,hc13⟩:=ha0.el aap;have az_:=WM;obtain ⟨A16,n16,c16,A17,n17,c17,A18,n18,c18,rfl,⟨h16,r16⟩,⟨h17,r17⟩,⟨h18,r18⟩⟩:=WM;obtain ⟨rfl,q16⟩:=bI h16 r16;obtain ⟨rfl,q17⟩:=bI h17 r17;obtain ⟨rfl,q18⟩:=bI h18 r18;refine RQ.y rfl (Y.indexAddr (m:=k8) (sz:=6) rfl rfl asP hl12 (by kernel_rfl))<|gy 0 rfl<|gZ (.bool x7.done) rfl (cu (cellT T (hc13 0 _ rfl)))<|aT iF<|RQ.y rfl (Y.rem rfl rfl (by decide))<|iq (.bool ((i3.tmod 3)==0))<|RQ.y rfl (Y.beq (c:=(x7.done != ((i3.tmod 3)==0))) (by kernel_rfl) rfl rfl (.inr ⟨rfl,rfl⟩))<|RQ.nil<|ah ?_;rcases aB (x7.done != ((i3.tmod 3)==0)) with c19|c19
  ·replace hm:=cF c19 hm;refine iH c19<|wp_skip<|ah<|wp_seq<|au rfl<|aT iF ?_;obtain ⟨s20,aHm,hm⟩:=bnd hm;replace aHm:=jg aHm;refine uZ (.int .i64 s20) rfl rfl (by rw [bn aHm.2,aHm.1])<|aW (.int .i64 s20)<|RQ.nil<|ah<|wp_seq<|wp_seq<|au rfl<|aT dQ<|aT jD ?_;obtain ⟨x21,hx24,hm⟩:=bnd hm;obtain ⟨k22,aKZ,aK1,hx24⟩:=aU hx24;obtain ⟨bbE,aCt,hc27⟩:=ha0.el hx24;have a0s:=aCt;obtain ⟨A28,n28,c28,A29,n29,c29,A30,n30,PU,rfl,⟨h28,r28⟩,⟨h29,r29⟩,⟨h30,r30⟩⟩:=aCt;obtain ⟨rfl,q28⟩:=bI h28 r28;obtain ⟨rfl,q29⟩:=bI h29 r29;obtain ⟨rfl,q30⟩:=bI h30 r30;refine RQ.y rfl (Y.indexAddr (m:=k22) (sz:=6) rfl rfl aKZ aK1 (by kernel_rfl))<|gy 1 rfl<|gy 0 rfl<|gy 0 rfl<|gZ (.int .i64 x21.closure.term.kind) rfl (cu (cellT T (hc27 1 _ rfl)))<|dF (.int .i64 s20)<|iq (.bool (x21.closure.term.kind != s20))<|RQ.nil<|ah ?_;rcases aB (x21.closure.term.kind != s20) with c31|c31
   ·replace hm:=cF c31 hm;refine iH c31<|wp_skip<|ah<|wp_seq<|au rfl<|dF (.int .i64 s20) ?_;obtain ⟨s32,anE,hm⟩:=bnd hm;replace anE:=jg anE;refine uZ (.int .i64 s32) rfl rfl (by rw [bn anE.2,anE.1])<|aW (.int .i64 s32)<|RQ.nil<|ah<|wp_seq<|wp_seq<|au rfl<|aT dQ<|aT jD ?_;obtain ⟨x33,aMd,hm⟩:=bnd hm;obtain ⟨k34,a0t,a0u,aMd⟩:=aU aMd;obtain ⟨bbF,aCu,hc39⟩:=ha0.el aMd;have a0v:=aCu;obtain ⟨A40,n40,c40,A41,n41,WC,A42,n42,MQ,rfl,⟨h40,r40⟩,⟨h41,r41⟩,⟨h42,r42⟩⟩:=aCu;obtain ⟨rfl,q40⟩:=bI h40 r40;obtain ⟨rfl,q41⟩:=bI h41 r41;obtain ⟨rfl,q42⟩:=bI h42 r42;refine RQ.y rfl (Y.indexAddr (m:=k34) (sz:=6) rfl rfl a0t a0u (by kernel_rfl))<|gy 1 rfl<|gy 0 rfl<|gy 1 rfl<|gZ (.int .i64 x33.closure.term.value) rfl (cu (cellT T (hc39 2 _ rfl)))<|dF (.int .i64 s32)<|iq (.bool (x33.closure.term.value != s32))<|RQ.nil<|ah ?_;rcases aB (x33.closure.term.value != s32) with c43|c43
    ·replace hm:=cF c43 hm;refine iH c43<|wp_skip<|ah<|wp_seq<|au rfl<|dF (.int .i64 s32) ?_;obtain ⟨s44,anC,hm⟩:=bnd hm;replace anC:=jg anC;refine uZ (.int .i64 s44) rfl rfl (by rw [bn anC.2,anC.1])<|aW (.int .i64 s44)<|RQ.nil<|ah<|wp_seq<|cZ rfl<|aT dQ<|aT jD ?_;obtain ⟨x45,ahC,hm⟩:=bnd hm;obtain ⟨k46,ax4,aBV,ahC⟩:=aU ahC;obtain ⟨aZS,ahL,aL5⟩:=ha0.el ahC;have aL6:=ahL;obtain ⟨A52,n52,JR,Zi,n53,c53,A54,n54,c54,rfl,⟨h52,r52⟩,⟨h53,r53⟩,⟨h54,r54⟩⟩:=ahL;obtain ⟨rfl,q52⟩:=bI h52 r52;obtain ⟨rfl,q53⟩:=bI h53 r53;obtain ⟨rfl,q54⟩:=bI h54 r54;refine RQ.y rfl (Y.indexAddr (m:=k46) (sz:=6) rfl rfl ax4 aBV (by kernel_rfl))<|gy 1 rfl<|gy 0 rfl<|gy 2 rfl<|gZ (.slice A52 x45.closure.term.data.length JR) rfl (bV (cellT T (aL5 3 _ rfl)))<|dF (.int .i64 s44) ?_;obtain ⟨y55,e56,hm⟩:=bnd hm;refine RQ.call rfl (qV rfl rfl) (by kernel_rfl) (v:=.int .i64 y55) (bel (K:=fun _=>True) fun w' hb'=>(lH x45.closure.term.data s44 _ e56 _ w' (eY aG h52 r52 (Tt T hb'))))<|aW (.int .i64 y55)<|RQ.nil ?_;intro w57 akb;have aA9:=akb.size;have T:=Tt T akb;refine ah<|wp_seq<|wp_seq<|au rfl<|dF (.int .i64 y55)<|iq (.bool (decide (y55 < 0)))<|RQ.nil<|ah ?_;rcases aB (decide (y55 < 0)) with c59|c59
     ·replace hm:=cF c59 hm;have a0w:=of_decide_eq_false c59;refine iH c59<|wp_skip<|ah<|wp_seq<|cZ rfl<|aT dQ<|aT jD ?_;obtain ⟨x60,atK,hm⟩:=bnd hm;obtain ⟨k61,aMe,aMf,atK⟩:=aU atK;obtain ⟨a0x,ahN,aMg⟩:=ha0.el atK;have aMh:=ahN;obtain ⟨A67,n67,c67,A68,n68,c68,A69,n69,c69,rfl,⟨h67,r67⟩,⟨h68,r68⟩,⟨h69,r69⟩⟩:=ahN;obtain ⟨rfl,q67⟩:=bI h67 r67;obtain ⟨rfl,q68⟩:=bI h68 r68;obtain ⟨rfl,q69⟩:=bI h69 r69;refine RQ.y rfl (Y.indexAddr (m:=k61) (sz:=6) rfl rfl aMe aMf (by kernel_rfl))<|gy 1 rfl<|gy 0 rfl<|gy 3 rfl<|gZ (.slice A68 x60.closure.term.kids.length c68) rfl (bV (cellT T (aMg 4 _ rfl)))<|dF (.int .i64 y55) ?_;obtain ⟨y70,e71,hm⟩:=bnd hm;refine RQ.call rfl (qV rfl rfl) (by kernel_rfl) (v:=.int .i64 y70) (bel (K:=fun _=>True) fun w' hb'=>(Oa (SizeOf.sizeOf x60.closure.term.kids) x60.closure.term.kids y55 _ e71 _ w' (eY aK h68 r68 (Tt T hb'))))<|aW (.int .i64 y70)<|RQ.nil ?_;intro w72 aAP;have aQc:=aAP.size;have T:=Tt T aAP;refine ah<|wp_seq<|wp_seq<|au rfl<|dF (.int .i64 y70)<|iq (.bool (decide (y70 < 0)))<|RQ.nil<|ah ?_;rcases aB (decide (y70 < 0)) with c74|c74
      ·replace hm:=cF c74 hm;have a0y:=of_decide_eq_false c74;refine iH c74<|wp_skip<|ah<|wp_seq<|cZ rfl<|aT dQ<|aT jD ?_;obtain ⟨x75,aMi,hm⟩:=bnd hm;obtain ⟨k76,a0z,a0A,aMi⟩:=aU aMi;obtain ⟨bbG,aCv,a0B⟩:=ha0.el aMi;have a0C:=aCv;obtain ⟨A82,n82,c82,A83,n83,c83,A84,n84,c84,rfl,⟨h82,r82⟩,⟨h83,r83⟩,⟨h84,r84⟩⟩:=aCv;obtain ⟨rfl,q82⟩:=bI h82 r82;obtain ⟨rfl,q83⟩:=bI h83 r83;obtain ⟨rfl,q84⟩:=bI h84 r84;refine RQ.y rfl (Y.indexAddr (m:=k76) (sz:=6) rfl rfl a0z a0A (by kernel_rfl))<|gy 1 rfl<|gy 4 rfl<|gZ (.slice A84 x75.closure.env.length c84) rfl (bV (cellT T (a0B 5 _ rfl)))<|dF (.int .i64 y70) ?_;obtain ⟨y85,e86,hm⟩:=bnd hm;refine RQ.call rfl (qV rfl rfl) (by kernel_rfl) (v:=.int .i64 y85) (bel (K:=fun _=>True) fun w' hb'=>(lH x75.closure.env y70 _ e86 _ w' (eY aG h84 r84 (Tt T hb'))))<|aW (.int .i64 y85)<|RQ.nil ?_;intro w87 aBa;have aQY:=aBa.size;have T:=Tt T aBa;refine ah<|wp_seq<|au rfl<|dF (.int .i64 y85)<|iq (.bool (decide (y85 < 0)))<|RQ.nil<|ah ?_;rcases aB (decide (y85 < 0)) with c89|c89
       ·replace hm:=cF c89 hm;have a0D:=of_decide_eq_false c89;refine iH c89<|wp_skip ?_;refine eF (ah ?_);refine au rfl<|aT jD<|RQ.y rfl (Y.dS rfl rfl (bn (m:=i4) (by omega)))<|aW (.int .i64 (i4+1))<|RQ.nil ?_;exact (ah ⟨g,_,Nat.lt_succ_self _,rfl,⟨y85,(i4+1),dQ,rfl,rfl,(by omega),T,(by rw [← d_]; exact hm)⟩⟩)
       replace hm:=cT c89 hm;have a0D:=of_decide_eq_true c89;refine ig c89<|wp_seq<|au rfl<|aW (.int .i64 (-1))<|RQ.nil<|ah<|wp_ret ?_
       cases hm
       exact (bC (aF (aF (jG (bC (aF (aV rfl rfl rfl ⟨rfl,T⟩)))))))
      replace hm:=cT c74 hm;have a0y:=of_decide_eq_true c74;refine ig c74<|wp_seq<|au rfl<|aW (.int .i64 (-1))<|RQ.nil<|ah<|wp_ret ?_
      cases hm
      exact (aF (bC (aF (aF (jG (bC (aF (aV rfl rfl rfl ⟨rfl,T⟩))))))))
     replace hm:=cT c59 hm;have a0w:=of_decide_eq_true c59;refine ig c59<|wp_seq<|au rfl<|aW (.int .i64 (-1))<|RQ.nil<|ah<|wp_ret ?_
     cases hm
     exact (aF (bC (aF (aF (jG (bC (aF (aV rfl rfl rfl ⟨rfl,T⟩))))))))
    replace hm:=cT c43 hm;refine ig c43<|wp_seq<|au rfl<|aW (.int .i64 (-1))<|RQ.nil<|ah<|wp_ret ?_
    cases hm
    exact (aF (bC (aF (aF (jG (bC (aF (aV rfl rfl rfl ⟨rfl,T⟩))))))))
   replace hm:=cT c31 hm;refine ig c31<|wp_seq<|au rfl<|aW (.int .i64 (-1))<|RQ.nil<|ah<|wp_ret ?_
   cases hm
   exact (aF (bC (aF (aF (jG (bC (aF (aV rfl rfl rfl ⟨rfl,T⟩))))))))
  replace hm:=cT c19 hm;refine ig c19<|wp_seq<|au rfl<|aW (.int .i64 (-1))<|RQ.nil<|ah<|wp_ret ?_
  cases hm
  exact (aF (bC (aF (aF (jG (bC (aF (aV rfl rfl rfl ⟨rfl,T⟩))))))))
noncomputable def E8 (d0:aN) (d1:Int):Option Int:=
  ((BD (⟨(⟨d0.control.term.kind,d0.control.term.value,d0.control.term.data,d0.control.term.kids⟩:ak),d0.control.env⟩:ay) d1).bind fun tK=>(bif (decide (tK < 0)) then some (-1) else ((zB d0.stack tK).bind fun GI=>(bif (decide (GI < 0)) then some (-1) else ((zC d0.heap GI).bind fun y20=>(bif (decide (y20 < 0)) then some (-1) else some y20))))))
set_option maxHeartbeats 2000000 in
theorem abO (d0:aN) (d1:Int) (r:Int) (hm:E8 d0 d1=some r) (v0:Value) (w:World) (hv0:St jQ w v0 d0) :
    Calls Tryz.prog 14 #[v0,.int .i64 d1] w fun e w'=>e=.returned (.int .i64 r)∧Below w.heap.size w w':=by
  obtain ⟨lg,rfl,⟨A1,n1,c1,A2,n2,c2,A3,n3,c3,A4,n4,c4,A5,n5,c5,rfl,⟨h1,r1⟩,⟨h2,r2⟩,⟨h3,r3⟩,⟨h4,r4⟩,⟨h5,r5⟩⟩⟩:=hv0;obtain ⟨rfl,q1⟩:=bI h1 r1;obtain ⟨rfl,q2⟩:=bI h2 r2;obtain ⟨rfl,q3⟩:=bI h3 r3;obtain ⟨rfl,q4⟩:=bI h4 r4;obtain ⟨rfl,q5⟩:=bI h5 r5;have T:=Below.refl w.heap.size w;unfold E8 at hm;refine enter 24 Tryz.func14 rfl rfl rfl ?_;intro f hf;have s0:f 0=.agg #[.int .i64 d0.control.term.kind,.int .i64 d0.control.term.value,.slice A1 d0.control.term.data.length c1,.slice A2 d0.control.term.kids.length c2,.slice A3 d0.control.env.length c3,.slice A4 d0.stack.length c4,.slice A5 d0.heap.length c5]:=hf 0 _ rfl;have s1:f 1=.int .i64 d1:=hf 1 _ rfl;refine wp_seq<|bF rfl ?_;refine RL.box rfl s0 (fun w6 B7 hb8 axO=>?_);replace B7:dD w6 w.heap.size 44 #[.int .i64 d0.control.term.kind,.int .i64 d0.control.term.value,.slice A1 d0.control.term.data.length c1,.slice A2 d0.control.term.kids.length c2,.slice A3 d0.control.env.length c3,.slice A4 d0.stack.length c4,.slice A5 d0.heap.length c5]:=B7;have GB7:w.heap.size≤w.heap.size:=T.size;have T:=Tt T hb8;refine Ez (.int .i64 0)<|RL.nil<|ah<|wp_seq<|cZ rfl<|gy 0 rfl<|LC [.int .i64 d0.control.term.kind,.int .i64 d0.control.term.value,.slice A1 d0.control.term.data.length c1,.slice A2 d0.control.term.kids.length c2,.slice A3 d0.control.env.length c3] rfl (cells5 (bV (aj B7 (i:=0) rfl)) (bV (aj B7 (i:=1) rfl)) (bV (aj B7 (i:=2) rfl)) (bV (aj B7 (i:=3) rfl)) (bV (aj B7 (i:=4) rfl)))<|aT s1 ?_;obtain ⟨tK,e11,hm⟩:=bnd hm;refine RQ.call rfl (qV rfl rfl) (by kernel_rfl) (v:=.int .i64 tK) (bel (K:=fun _=>True) fun w' hb'=>(Xm (⟨(⟨d0.control.term.kind,d0.control.term.value,d0.control.term.data,d0.control.term.kids⟩:ak),d0.control.env⟩:ay) d1 _ e11 _ w' (fE (R:=dM) ⟨_,_,_,_,_,_,_,_,_,rfl,⟨aY.now aG h1 (dB) (Tt T hb'),r1⟩,⟨aY.now aK h2 (dB) (Tt T hb'),r2⟩,⟨aY.now aG h3 (dB) (Tt T hb'),r3⟩⟩)))<|aW (.int .i64 tK)<|RQ.nil ?_;intro w12 Ad;have B7:=aX B7 Ad;have T:=Tt T Ad;refine ah<|wp_seq<|wp_seq<|au rfl<|dF (.int .i64 tK)<|iq (.bool (decide (tK < 0)))<|RQ.nil<|ah ?_;rcases aB (decide (tK < 0)) with c14|c14
  ·replace hm:=cF c14 hm;have atb:=of_decide_eq_false c14;refine iH c14<|wp_skip<|ah<|wp_seq<|cZ rfl<|gy 5 rfl<|gZ (.slice A4 d0.stack.length c4) rfl (bV (aj B7 (i:=5) rfl))<|dF (.int .i64 tK) ?_;obtain ⟨GI,e16,hm⟩:=bnd hm;refine RQ.call rfl (qV rfl rfl) (by kernel_rfl) (v:=.int .i64 GI) (bel (K:=fun _=>True) fun w' hb'=>(Zo d0.stack tK _ e16 _ w' (eY kF h4 r4 (Tt T hb'))))<|aW (.int .i64 GI)<|RQ.nil ?_;intro w17 PN;have B7:=aX B7 PN;have T:=Tt T PN;refine ah<|wp_seq<|wp_seq<|au rfl<|dF (.int .i64 GI)<|iq (.bool (decide (GI < 0)))<|RQ.nil<|ah ?_;rcases aB (decide (GI < 0)) with c19|c19
   ·replace hm:=cF c19 hm;have aAY:=of_decide_eq_false c19;refine iH c19<|wp_skip<|ah<|wp_seq<|cZ rfl<|gy 6 rfl<|gZ (.slice A5 d0.heap.length c5) rfl (bV (aj B7 (i:=6) rfl))<|dF (.int .i64 GI) ?_;obtain ⟨y20,e21,hm⟩:=bnd hm;refine RQ.call rfl (qV rfl rfl) (by kernel_rfl) (v:=.int .i64 y20) (bel (K:=fun _=>True) fun w' hb'=>(Zp d0.heap GI _ e21 _ w' (eY nN h5 r5 (Tt T hb'))))<|aW (.int .i64 y20)<|RQ.nil ?_;intro MO LU;have T:=Tt T LU;refine ah<|wp_seq<|wp_seq<|au rfl<|dF (.int .i64 y20)<|iq (.bool (decide (y20 < 0)))<|RQ.nil<|ah ?_;rcases aB (decide (y20 < 0)) with c24|c24
    ·replace hm:=cF c24 hm;have pc24:=of_decide_eq_false c24;refine iH c24<|wp_skip<|ah<|wp_seq<|au rfl<|dF (.int .i64 y20)<|aW (.int .i64 y20)<|RQ.nil<|ah<|wp_ret ?_
     cases hm
     exact (aV rfl rfl rfl ⟨rfl,T⟩)
    replace hm:=cT c24 hm;have pc24:=of_decide_eq_true c24;refine ig c24<|wp_seq<|au rfl<|aW (.int .i64 (-1))<|RQ.nil<|ah<|wp_ret ?_
    cases hm
    exact (aF (aV rfl rfl rfl ⟨rfl,T⟩))
   replace hm:=cT c19 hm;have aAY:=of_decide_eq_true c19;refine ig c19<|wp_seq<|au rfl<|aW (.int .i64 (-1))<|RQ.nil<|ah<|wp_ret ?_
   cases hm
   exact (aF (aV rfl rfl rfl ⟨rfl,T⟩))
  replace hm:=cT c14 hm;have atb:=of_decide_eq_true c14;refine ig c14<|wp_seq<|au rfl<|aW (.int .i64 (-1))<|RQ.nil<|ah<|wp_ret ?_
  cases hm
  exact (aF (aV rfl rfl rfl ⟨rfl,T⟩))
end
section
open Go.RowKit
set_option maxRecDepth 100000
noncomputable def kS (z27:ak):Option ak:=
  some z27
noncomputable def oP (d0:ak) (d1:Int) (d2:Int) (self:ak→Int→Int→Option ak) (eU:Int→ak→Option ak) (K1:ak→Option ak) (i36:Int) (z37:ak):Option ak:=
  (bif (decide (i36 < (d0.kids.length:Int))) then ((fC d0.kids i36).bind fun x42=>((yI d0 i36).bind fun y53=>((ck (d2+y53)).bind fun s57=>((self x42 d1 s57).bind fun y58=>((yB (z37.kids.length+([y58]).length≤4294967296)).bind fun _=>(eU (i36+1) (⟨z37.kind,z37.value,z37.data,(z37.kids ++ [y58])⟩:ak))))))) else (K1 z37))
noncomputable def gJ (d0:ak) (d1:Int) (d2:Int) (self:ak→Int→Int→Option ak) (K1:ak→Option ak):Nat→Int→ak→Option ak
  |0,_,_=>none
  |g+1,i36,z37=>oP d0 d1 d2 self (gJ d0 d1 d2 self K1 g) K1 i36 z37
noncomputable def iU (d0:ak) (d1:Int) (d2:Int) (self:ak→Int→Int→Option ak) (z25:ak):Option ak:=
  (gJ d0 d1 d2 self kS (d0.kids.length+1) 0 z25)
noncomputable def zD (self:ak→Int→Int→Option ak) (d0:ak) (d1:Int) (d2:Int):Option ak:=
  ((og d0.data).bind fun y9=>(bif (d0.kind==1) then (bif (decide (d0.value ≥ d2)) then ((ck (d0.value+d1)).bind fun ayk=>(iU d0 d1 d2 self (⟨d0.kind,ayk,y9,[]⟩:ak))) else (iU d0 d1 d2 self (⟨d0.kind,d0.value,y9,[]⟩:ak))) else (iU d0 d1 d2 self (⟨d0.kind,d0.value,y9,[]⟩:ak))))
noncomputable def oJ:Nat→ak→Int→Int→Option ak
  |0,_,_,_=>none
  |dJ+1,d0,d1,d2=>zD (oJ dJ) d0 d1 d2
set_option maxHeartbeats 2000000 in
theorem abP :∀(dJ:Nat) (d0:ak) (d1:Int) (d2:Int) (r:ak) (hm:oJ dJ d0 d1 d2=some r) (v0:Value) (w:World) (hv0:Pt bf w v0 d0),
    Calls Tryz.prog 104 #[v0,.int .i64 d1,.int .i64 d2] w fun e w'=>(∃(v0:Value) (v1:Value) (Ag:List Nat),e=.returned (.agg #[.int .i64 r.kind,.int .i64 r.value,v0,v1])∧aA 2 encI 1 w' w.heap.size v0 r.data∧aH 38 dI 4 w' w.heap.size v1 r.kids Ag∧Ap (fb v0) Ag)∧Below w.heap.size w w':=by
  intro dJ;induction dJ with
  |zero=>
   intro d0 d1 d2 r hm v0 w hv0
   cases hm
  |succ dJ ih=>
   intro d0 d1 d2 r hm v0 w hv0;obtain ⟨qg,qh,lg,rfl,qm,jR,eu⟩:=hv0;have qB:=jR;obtain ⟨A1,n1,c1,A2,n2,c2,rfl,⟨h1,r1⟩,⟨h2,r2⟩⟩:=(bG jR);obtain ⟨rfl,q1⟩:=bI h1 r1;obtain ⟨rfl,q2⟩:=bI h2 r2;have T:=Below.refl w.heap.size w;obtain ⟨self,hself,hm⟩ :∃s,s=oJ dJ∧zD s d0 d1 d2=some r:=⟨_,rfl,hm⟩;unfold zD at hm;refine enter 69 Tryz.func104 rfl rfl rfl ?_;intro f hf;have s0:f 0=.pointer (some ⟨qg,qh,none⟩):=hf 0 _ rfl;have s1:f 1=.int .i64 d1:=hf 1 _ rfl;have s2:f 2=.int .i64 d2:=hf 2 _ rfl;refine wp_seq<|bF rfl ?_;refine RL.alloc (z:=.agg #[.int .i64 0,.int .i64 0,.slice none 0 0,.slice none 0 0]) rfl (by kernel_rfl) (fun w3 B4 hb5 LP=>?_);replace B4:dD w3 w.heap.size 38 #[.int .i64 0,.int .i64 0,.slice none 0 0,.slice none 0 0]:=B4;have GB4:w.heap.size≤w.heap.size:=T.size;have T:=Tt T hb5;refine RL.nil<|ah<|wp_seq ?_;refine agY (fun w'=>Below w.heap.size w w') (.q 0 (.q 1 (.q 2 (.q 3 (.q 4 (.q 5 (.q 6 (.q 7 (.q 8 (.q 9 (.q 10 (.q 11 (.two 12 (.q 13 (.a 14 (.a 15 .nil))) 14 (.a 12 (.q 13 (.a 15 .nil)))))))))))))))) (by kernel_rfl) (by kernel_rfl) (fun w7 hb8 aj_=>?_);have B4:=aX B4 hb8;have T:=Tt T hb8;refine ⟨T,?_⟩;refine RT.y rfl rfl (Y.move (v:=.pointer (some ⟨qg,qh,none⟩)) s0)<|RT.y rfl rfl (Y.nilCheck rfl)<|RT.y rfl rfl (Y.fieldAddr (off:=0) rfl (by kernel_rfl))<|RT.y rfl rfl (Y.load (v:=.int .i64 d0.kind) rfl (by kernel_rfl) (fun w' hS=>(cellT hS (eu 0 _ rfl))))<|RT.y rfl rfl (Y.move (v:=.pointer (some ⟨qg,qh,none⟩)) s0)<|RT.y rfl rfl (Y.nilCheck rfl)<|RT.y rfl rfl (Y.fieldAddr (off:=1) rfl (by kernel_rfl))<|RT.y rfl rfl (Y.load (v:=.int .i64 d0.value) rfl (by kernel_rfl) (fun w' hS=>(cellT hS (eu 1 _ rfl))))<|RT.y rfl rfl (Y.move (v:=.pointer (some ⟨qg,qh,none⟩)) s0)<|RT.y rfl rfl (Y.nilCheck rfl)<|RT.y rfl rfl (Y.fieldAddr (off:=2) rfl (by kernel_rfl))<|RT.y rfl rfl (Y.load (v:=.slice A1 d0.data.length c1) rfl (by kernel_rfl) (fun w' hS=>(cellT hS (eu 2 _ rfl))))<|RT.both rfl rfl ?_ ?_
   ·obtain ⟨y9,e10,hm⟩:=bnd hm;refine RL.call rfl (qZ rfl) (by kernel_rfl) ((BX d0.data _ e10 _ _ (eY aG h1 r1 T)).mono ?_);rintro _ WQ ⟨⟨v11,rfl,G12⟩,PL⟩;refine ⟨_,rfl,?_⟩;have aJd:=PL.size;have aRZ:=T.size;have ahO:=aJ (Ap.new (aA.dU G12) (aI B4.lt));have B4:=aX B4 PL;have T:=Tt T PL;replace G12:=aA.mono G12 aRZ;refine RL.nil ⟨T,?_⟩;obtain ⟨A16,c17,rfl⟩:=aA.form G12;have a9M:=aA.bound G12;refine RT.y rfl rfl (Y.ank (cells:=#[.int .i64 d0.kind,.int .i64 d0.value,.slice A16 y9.length c17,.slice none 0 0]) rfl rfl rfl (by kernel_rfl) (by kernel_rfl))<|RT.act rfl ?_;refine RL.alloc (z:=.agg #[.int .i64 0,.int .i64 0,.slice none 0 0,.slice none 0 0]) rfl (by kernel_rfl) (fun w18 YM anD ahd=>?_);replace YM:dD w18 WQ.heap.size 38 #[.int .i64 0,.int .i64 0,.slice none 0 0,.slice none 0 0]:=YM;have aYS:w.heap.size≤WQ.heap.size:=T.size;have YS:=Nat.ne_of_lt B4.lt;have S_:=aA.far G12 (dB);have B4:=aX B4 anD;have G12:=aA.below G12 anD;have T:=Tt T anD;refine RL.nil ⟨T,?_⟩;refine RT.act rfl ?_;refine RL.store (v:=.agg #[.int .i64 d0.kind,.int .i64 d0.value,.slice A16 y9.length c17,.slice none 0 0]) (cs':=#[.int .i64 d0.kind,.int .i64 d0.value,.slice A16 y9.length c17,.slice none 0 0]) rfl rfl rfl YM (by kernel_rfl) (by rfl) (by rfl) (by rfl) (fun MO B23 anO=>?_);have amn:=anO.size;have B4:=B4.bK anO (by intro hin; simp at hin; exact YS hin);have G12:=aA.only G12 anO S_;have T:=T.trans (anO.below (by first|(simp; done)|(simp; omega)));refine RL.nil ⟨T,?_⟩;refine RT.nil_<|ah<|awL (K:=(fun f w'=>∃(z25:ak) (aaN:Value) (anP:Value) (YT:List Nat),f 0=.pointer (some ⟨qg,qh,none⟩)∧f 1=.int .i64 d1∧f 2=.int .i64 d2∧f 6=.pointer (some ⟨w.heap.size,0,none⟩)∧f 7=.pointer (some ⟨WQ.heap.size,0,none⟩)∧dD w' WQ.heap.size 38 #[.int .i64 z25.kind,.int .i64 z25.value,aaN,anP]∧aA 2 encI 1 w' w.heap.size aaN z25.data∧aH 38 dI 4 w' w.heap.size anP z25.kids YT∧Value.ownBlock aaN ≠ some w.heap.size∧Value.ownBlock aaN ≠ some WQ.heap.size∧Ap YT (fb aaN)∧Ap YT [w.heap.size]∧Ap YT [WQ.heap.size]∧dD w' w.heap.size 38 #[.int .i64 0,.int .i64 0,.slice none 0 0,.slice none 0 0]∧Below w.heap.size w w'∧iU d0 d1 d2 self z25=some r)) ?_ ?_
    ·rintro f PS ⟨z25,aaN,anP,YT,atL,atM,atN,atO,atP,a0E,aHn,aHo,aqo,anQ,ahP,aqp,anR,B4,T,hm⟩;unfold iU at hm;refine wp_seq<|wp_seq<|au rfl<|aW (.int .i64 0)<|RQ.nil<|ah<|wp_block ?_;obtain ⟨K1,hK1,hm⟩ :∃K,K=kS∧gJ d0 d1 d2 self K (d0.kids.length+1) 0 z25=some r:=⟨_,rfl,hm⟩;refine dG (fun g f w'=>∃(i36:Int) (z37:ak) (yF:Value) (Ob:Value) (yj:List Nat),f 0=.pointer (some ⟨qg,qh,none⟩)∧f 1=.int .i64 d1∧f 2=.int .i64 d2∧f 6=.pointer (some ⟨w.heap.size,0,none⟩)∧f 7=.pointer (some ⟨WQ.heap.size,0,none⟩)∧f 8=.int .i64 i36∧0≤i36∧dD w' WQ.heap.size 38 #[.int .i64 z37.kind,.int .i64 z37.value,yF,Ob]∧aA 2 encI 1 w' w.heap.size yF z37.data∧aH 38 dI 4 w' w.heap.size Ob z37.kids yj∧Value.ownBlock yF ≠ some w.heap.size∧Value.ownBlock yF ≠ some WQ.heap.size∧Ap yj (fb yF)∧Ap yj [w.heap.size]∧Ap yj [WQ.heap.size]∧dD w' w.heap.size 38 #[.int .i64 0,.int .i64 0,.slice none 0 0,.slice none 0 0]∧Below w.heap.size w w'∧gJ d0 d1 d2 self K1 g i36 z37=some r) 0 (fun f w'=>∃(z27:ak) (aaO:Value) (anS:Value) (abQ:List Nat),f 6=.pointer (some ⟨w.heap.size,0,none⟩)∧f 7=.pointer (some ⟨WQ.heap.size,0,none⟩)∧dD w' WQ.heap.size 38 #[.int .i64 z27.kind,.int .i64 z27.value,aaO,anS]∧aA 2 encI 1 w' w.heap.size aaO z27.data∧aH 38 dI 4 w' w.heap.size anS z27.kids abQ∧Value.ownBlock aaO ≠ some w.heap.size∧Value.ownBlock aaO ≠ some WQ.heap.size∧Ap abQ (fb aaO)∧Ap abQ [w.heap.size]∧Ap abQ [WQ.heap.size]∧dD w' w.heap.size 38 #[.int .i64 0,.int .i64 0,.slice none 0 0,.slice none 0 0]∧Below w.heap.size w w'∧kS z27=some r) (d0.kids.length+1) ⟨0,z25,(aaN),(anP),YT,atL,atM,atN,atO,atP,rfl,(by omega),a0E,aHn,aHo,(aJ (aP aqo)),(aJ (aP anQ)),ahP,aqp,anR,B4,T,hm⟩ ?_ ?_
     ·rintro f w28 ⟨z27,aaO,anS,abQ,ZI,ahQ,ayl,abR,abS,aqr,aHp,ahR,aqs,aHq,B4,T,hm⟩;unfold kS at hm;refine dW (ah ?_);refine wp_seq<|bF rfl<|Sm [.int .i64 z27.kind,.int .i64 z27.value,aaO,anS] ahQ (cells4 (cu (aj ayl (i:=0) rfl)) (cu (aj ayl (i:=1) rfl)) (cu (aj ayl (i:=2) rfl)) (cu (aj ayl (i:=3) rfl))) ?_;obtain ⟨A29,PU,rfl⟩:=aA.form abR;have aRp:=aA.bound abR;obtain ⟨A31,c32,rfl⟩:=aH.form abS;have aR0:=aH.bound abS;refine RL.store (v:=.agg #[.int .i64 z27.kind,.int .i64 z27.value,.slice A29 z27.data.length PU,.slice A31 z27.kids.length c32]) (cs':=#[.int .i64 z27.kind,.int .i64 z27.value,.slice A29 z27.data.length PU,.slice A31 z27.kids.length c32]) rfl ZI rfl B4 (by kernel_rfl) (by rfl) (by rfl) (by rfl) (fun w33 B34 aCw=>?_);have a9N:=aCw.size;have ayl:=ayl.bK aCw (by intro hin; simp at hin; exact YS.symm hin);have abR:=aA.only abR aCw aqr;have abS:=aH.only aC abS aCw (Ap.one aqs);have T:=T.trans (aCw.below (by first|(simp; done)|(simp; omega)));refine RL.nil<|ah<|wp_ret ?_;obtain rfl:=sj hm;exact (WJ (cs:=[.int .i64 z27.kind,.int .i64 z27.value,.slice A29 z27.data.length PU,.slice A31 z27.kids.length c32]) rfl rfl ZI (by kernel_rfl) (n_ B34) ⟨⟨_,_,_,rfl,abR,abS,(Ap.symm ahR)⟩,T⟩)
     rintro g f w38 ⟨i36,z37,yF,Ob,yj,dQ,iF,yT,I8,D6,Qz,av3,Oc,uM,yt,afp,Uy,DR,Xn,Uz,B4,T,hm⟩;rcases g with _|g
     ·simp only [gJ] at hm; cases hm
     obtain ⟨eU,d_,hm⟩ :∃z,z=gJ d0 d1 d2 self K1 g∧oP d0 d1 d2 self z K1 i36 z37=some r:=⟨_,rfl,hm⟩;unfold oP at hm;refine wp_seq<|wp_seq<|au rfl<|aT Qz<|aT dQ<|Du rfl<|gy 3 rfl<|gZ (.slice A2 d0.kids.length c2) rfl (cu (cellT T (eu 3 _ rfl)))<|yH rfl<|iq (.bool (decide (i36 < (d0.kids.length:Int))))<|RQ.nil<|ah ?_;rcases aB (decide (i36 < (d0.kids.length:Int))) with Vy|Vy
     ·replace hm:=cF Vy hm;have pc39:=of_decide_eq_false Vy;refine iH Vy<|wp_exit ?_;exact (bQ (bQ (iW ⟨_,rfl,⟨z37,(yF),(Ob),yj,I8,D6,Oc,uM,yt,(aJ (aP afp)),(aJ (aP Uy)),DR,Xn,Uz,B4,T,(by rw [hK1] at hm; exact hm)⟩⟩)))
     replace hm:=cT Vy hm;have pc39:=of_decide_eq_true Vy;refine ig Vy<|wp_skip<|ah<|wp_seq<|wp_block ?_;refine Ux (fun w'=>dD w' WQ.heap.size 38 #[.int .i64 z37.kind,.int .i64 z37.value,yF,Ob]) (fun w'=>Below w.heap.size w w') 18 (.q 0 (.e 1 (.q 2 (.q 3 (.q 4 (.q 5 (.q 6 (.q 7 (.q 8 (.q 9 (.q 10 (.q 11 (.a 12 (.q 13 (.a 14 (.a 15 (.a 16 (.q 17 (.a 18 .nil))))))))))))))))))) (by kernel_rfl) (by kernel_rfl) (fun w40 adS aAD=>?_);have B4:=aX B4 adS;have Oc:=aX Oc adS;have uM:=aA.below uM adS;have yt:=aH.below aC yt adS;have T:=Tt T adS;refine ⟨⟨Oc,T⟩,?_⟩;refine RX.y rfl rfl (Y.fieldAddr (off:=3) D6 (by kernel_rfl))<|RX.e rfl rfl (Y.load (v:=Ob) rfl (by kernel_rfl) (fun w' hS=>(aj hS.1 (i:=3) rfl)))<|RX.y rfl rfl (Y.move (v:=.pointer (some ⟨qg,qh,none⟩)) dQ)<|RX.y rfl rfl (Y.nilCheck rfl)<|RX.y rfl rfl (Y.fieldAddr (off:=3) rfl (by kernel_rfl))<|RX.y rfl rfl (Y.load (v:=.slice A2 d0.kids.length c2) rfl (by kernel_rfl) (fun w' hS=>(cellT hS (eu 3 _ rfl))))<|RX.y rfl rfl (Y.move (v:=.int .i64 i36) Qz) ?_;obtain ⟨x42,atQ,hm⟩:=bnd hm;obtain ⟨k43,aMj,aMk,atQ⟩:=aU atQ;obtain ⟨b49,o50,rfl,aJE⟩:=h2.addr (by omega);obtain ⟨a0F,ahS,aym⟩:=h2.el atQ;have aCx:=ahS;obtain ⟨A51,n51,c51,A52,n52,JR,rfl,⟨h51,r51⟩,⟨h52,r52⟩⟩:=(bG ahS);obtain ⟨rfl,q51⟩:=bI h51 r51;obtain ⟨rfl,q52⟩:=bI h52 r52;refine RX.y rfl rfl (Y.indexAddr (m:=k43) (sz:=4) rfl rfl aMj aMk (by kernel_rfl))<|RX.y rfl rfl (Y.move (v:=.int .i64 d1) iF)<|RX.y rfl rfl (Y.move (v:=.int .i64 d2) yT)<|RX.y rfl rfl (Y.move (v:=.pointer (some ⟨qg,qh,none⟩)) dQ)<|RX.y rfl rfl (Y.move (v:=.int .i64 i36) Qz)<|RX.act rfl rfl ?_;obtain ⟨y53,e54,hm⟩:=bnd hm;refine RL.call rfl (qV rfl rfl) (by kernel_rfl) ((Hq d0 i36 _ e54 _ _ (l9 aK qm qB eu T)).mono ?_);rintro _ w55 ⟨rfl,ayn⟩;refine ⟨_,rfl,?_⟩;have aA1:=ayn.size;have B4:=aX B4 ayn;have Oc:=aX Oc ayn;have uM:=aA.below uM ayn;have yt:=aH.below aC yt ayn;have T:=Tt T ayn;refine RL.nil ⟨⟨Oc,T⟩,?_⟩;obtain ⟨s57,aHr,hm⟩:=bnd hm;replace aHr:=jg aHr;refine RX.y rfl rfl (Y.dS (v:=.int .i64 s57) rfl rfl (by rw [bn aHr.2,aHr.1]))<|RX.act rfl rfl ?_;obtain ⟨y58,e59,hm⟩:=bnd hm;refine RL.call rfl (Vu rfl rfl rfl) (by kernel_rfl) ((ih x42 d1 s57 _ (by rw [← hself]; exact e59) _ _ (l9 aK aJE aCx aym T)).mono ?_);rintro _ w67 ⟨⟨v60,v63,aCy,rfl,G61,G64,aCz⟩,adU⟩
     refine ⟨_,rfl,?_⟩;have aAJ:=adU.size;have aJF:=T.size;have aCA:=aJ (Ap.new (aA.dU G61) (aI B4.lt));have ayo:=aJ (Ap.new (aA.dU G61) (aI Oc.lt));have aqt:=Ap.dj (Ap.new (aA.dU G61) (aA.je uM));have aqu:Ap (fb v60) yj:=(Ap.new (aA.dU G61) (aH.hi yt));have aCB:Ap aCy [w.heap.size]:=(Ap.new (aH.jB G64) (aI B4.lt));have ayp:Ap aCy [WQ.heap.size]:=(Ap.new (aH.jB G64) (aI Oc.lt));have aqv:Ap aCy (fb yF):=(Ap.new (aH.jB G64) (aA.je uM));have aqw:Ap aCy yj:=(Ap.new (aH.jB G64) (aH.hi yt));have B4:=aX B4 adU;have Oc:=aX Oc adU;have uM:=aA.below uM adU;have yt:=aH.below aC yt adU;have T:=Tt T adU;replace G61:=aA.mono G61 aJF;replace G64:=aH.mono G64 aJF;refine RL.nil ⟨⟨Oc,T⟩,?_⟩;refine RX.act rfl rfl ?_;obtain ⟨A73,c74,rfl⟩:=aA.form G61;have aR1:=aA.bound G61;obtain ⟨A75,c76,rfl⟩:=aH.form G64;have aR2:=aH.bound G64;refine RL.yD (e:=38) (cells:=#[.int .i64 y58.kind,.int .i64 y58.value,.slice A73 y58.data.length c74,.slice A75 y58.kids.length c76]) rfl (pm1 rfl) (by kernel_rfl) (fun w69 B70 Wj aI7=>?_);have a0G:w.heap.size≤w67.heap.size:=T.size;have q77:=aA.yP G61 (dB);have q78:=aH.both G64 (dB);have z79:=Ap.cons (Ap.ku (aI B4.lt)) (Ap.append (aP aCA) aCB);have z80:=Ap.cons (Ap.ku (aI Oc.lt)) (Ap.append (aP ayo) ayp);have WG:=Ap.cons (Ap.ku (aA.je uM)) (Ap.append (Dj.ap aqt) aqv);have z82:=Ap.cons (Ap.ku (aH.hi yt)) (Ap.append aqu aqw);have B4:=aX B4 Wj;have Oc:=aX Oc Wj;have uM:=aA.below uM Wj;have yt:=aH.below aC yt Wj;have G61:=aA.below G61 Wj;have G64:=aH.below aC G64 Wj;have T:=Tt T Wj;obtain ⟨l84,a83,a0H,aR3,r87⟩:=aA.EN fI G61;obtain ⟨_,_,_,l89,aR4,a88,aMl,aCC,r92⟩:=aH.Ua aC G64;injection aR4 with e1 e2 e3; subst e1 e2 e3;have G93:aH 38 dI 4 w69 w.heap.size (.slice (some ⟨w67.heap.size,0,none⟩) 1 1) [y58] (w67.heap.size :: ((fb (.slice A73 y58.data.length c74)) ++ aCy)):=aH.agZ (b1:=(l84 ++ l89)) B70 a0G (Jh ⟨_,_,_,_,_,_,l84,l89,rfl,⟨a83,r87⟩,⟨a88,r92⟩,rfl⟩) aC (ql a0H aMl aR3 aCC aCz) (yO aR3 aCC) (all2 q77 q78);refine RL.nil ⟨⟨Oc,T⟩,?_⟩;refine RX.act rfl rfl ?_;obtain ⟨_,m95,hm⟩:=bnd hm;have a0I:=h_ m95;refine RL.GX aC NI (by decide) EO rfl rfl rfl yt G93 (Ap.symm z82) T.size a0I (fun v97 w98 a0J aCD atS aCE atT=>?_)
     have a9O:=aCE.size;have z105:=Ap.app atT Xn z79 (aI B4.lt);have EJ:=Ap.app atT Uz z80 (aI Oc.lt);have z107:=Ap.app atT DR WG (aA.je uM);have B4:=dD.kept B4 atS (aH.ML yt Xn);have Oc:=dD.kept Oc atS (aH.ML yt Uz);have uM:=aA.Aa uM atS (aH.dj yt DR);have T:=T.trans aCE;refine RL.nil ⟨⟨Oc,T⟩,?_⟩;refine RX.y rfl rfl (Y.fieldAddr (off:=3) D6 (by kernel_rfl))<|RX.anM rfl rfl ?_;obtain ⟨aCF,c109,rfl⟩:=aH.form aCD;have aMm:=aH.bound aCD;refine RL.store (v:=.slice aCF ((z37.kids ++ [y58]).length) c109) (cs':=#[.int .i64 z37.kind,.int .i64 z37.value,yF,.slice aCF ((z37.kids ++ [y58]).length) c109]) rfl rfl rfl Oc (by kernel_rfl) (by rfl) (by rfl) (by rfl) (fun aYY a0K aqx=>?_);have aLx:=aqx.size;have B4:=B4.bK aqx (by intro hin; simp at hin; exact YS hin);have uM:=aA.only uM aqx Uy;have aCD:=aH.only aC aCD aqx (Ap.one EJ);have T:=T.trans (aqx.below (by first|(simp; done)|(simp; omega)));refine RL.nil ⟨T,?_⟩;refine RX.nil_ ?_;refine eF (ah ?_);refine au rfl<|aT Qz<|RQ.y rfl (Y.dS rfl rfl (bn (m:=i36) (by omega)))<|aW (.int .i64 (i36+1))<|RQ.nil ?_;exact (ah ⟨g,_,Nat.lt_succ_self _,rfl,⟨(i36+1),(⟨z37.kind,z37.value,z37.data,(z37.kids ++ [y58])⟩:ak),(yF),(.slice aCF ((z37.kids ++ [y58]).length) c109),a0J,dQ,iF,yT,I8,D6,rfl,(by omega),a0K,uM,aCD,(aJ (aP afp)),(aJ (aP Uy)),z107,z105,EJ,B4,T,(by rw [← d_]; exact hm)⟩⟩)
    intro atU;refine wp_seq<|wp_seq<|au rfl<|aT s0<|Du rfl<|gy 0 rfl<|gZ (.int .i64 d0.kind) rfl (cu (cellT T (eu 0 _ rfl)))<|iq (.bool (d0.kind==1))<|dF (.bool (d0.kind==1)) ?_;rcases aB (d0.kind==1) with aeo|aeo
    ·replace hm:=cF aeo hm;iterate 6 refine RQ.skip (oL 28 aeo) ?_
     refine dN false (.bool false) (vb rfl aeo)<|RQ.nil<|ah<|gU rfl rfl<|wp_skip<|ah ?_;exact atU _ _ ⟨(⟨d0.kind,d0.value,y9,[]⟩:ak),(.slice A16 y9.length c17),(.slice none 0 0),[],s0,s1,s2,rfl,rfl,B23,G12,aH.nil,(aJ (aP ahO)),(aJ (aP S_)),Ap.nil,Ap.nil,Ap.nil,B4,T,hm⟩
    replace hm:=cT aeo hm;refine RQ.y (bT 28 aeo) (Y.move (v:=.pointer (some ⟨qg,qh,none⟩)) s0)<|RQ.y (bT 28 aeo) (Y.nilCheck rfl)<|RQ.y (bT 28 aeo) (Y.fieldAddr (off:=1) rfl (by kernel_rfl))<|RQ.y (bT 28 aeo) (Y.load (v:=.int .i64 d0.value) rfl (by kernel_rfl) (cu (cellT T (eu 1 _ rfl))))<|RQ.y (bT 28 aeo) (Y.move (v:=.int .i64 d2) s2)<|RQ.y (bT 28 aeo) (Y.dS (v:=.bool (decide (d0.value ≥ d2))) rfl rfl rfl)<|dN true (.bool (decide (d0.value ≥ d2))) (vb rfl aeo)<|RQ.nil<|ah ?_;rcases aB (decide (d0.value ≥ d2)) with Jp|Jp
    ·replace hm:=cF Jp hm;have pc115:=of_decide_eq_false Jp;refine iH Jp<|wp_skip<|ah ?_;exact atU _ _ ⟨(⟨d0.kind,d0.value,y9,[]⟩:ak),(.slice A16 y9.length c17),(.slice none 0 0),[],s0,s1,s2,rfl,rfl,B23,G12,aH.nil,(aJ (aP ahO)),(aJ (aP S_)),Ap.nil,Ap.nil,Ap.nil,B4,T,hm⟩
    replace hm:=cT Jp hm;have pc115:=of_decide_eq_true Jp;refine ig Jp<|bF rfl<|rC 1 rfl<|I7 (.int .i64 d0.value) rfl (cu (aj B23 (i:=1) rfl))<|kE s1 ?_;obtain ⟨ayk,awN,hm⟩:=bnd hm;replace awN:=jg awN;refine aPF (.int .i64 ayk) rfl rfl (by rw [bn awN.2,awN.1])<|rC 1 rfl ?_;refine RL.store (v:=.int .i64 ayk) (cs':=#[.int .i64 d0.kind,.int .i64 ayk,.slice A16 y9.length c17,.slice none 0 0]) rfl rfl rfl B23 (by kernel_rfl) (by rfl) (by rfl) (by rfl) (fun aY0 a0L awO=>?_);have aLy:=awO.size;have B4:=B4.bK awO (by intro hin; simp at hin; exact YS hin);have G12:=aA.only G12 awO S_;have T:=T.trans (awO.below (by first|(simp; done)|(simp; omega)));refine RL.nil<|ah ?_;exact atU _ _ ⟨(⟨d0.kind,ayk,y9,[]⟩:ak),(.slice A16 y9.length c17),(.slice none 0 0),[],s0,s1,s2,rfl,rfl,a0L,G12,aH.nil,(aJ (aP ahO)),(aJ (aP S_)),Ap.nil,Ap.nil,Ap.nil,B4,T,hm⟩
   refine RL.alloc (z:=.agg #[.int .i64 0,.int .i64 0,.slice none 0 0,.slice none 0 0]) rfl (by kernel_rfl) (fun aGJ aep afm aBd=>?_);replace aep:dD aGJ w7.heap.size 38 #[.int .i64 0,.int .i64 0,.slice none 0 0,.slice none 0 0]:=aep;have aR5:w.heap.size≤w7.heap.size:=T.size;have Jq:=Nat.ne_of_lt B4.lt;have B4:=aX B4 afm;have T:=Tt T afm;refine RL.nil ⟨T,?_⟩;refine RT.act rfl ?_;obtain ⟨Xo,e125,hm⟩:=bnd hm;refine RL.call rfl (qZ rfl) (by kernel_rfl) ((BX d0.data _ e125 _ _ (eY aG h1 r1 T)).mono ?_);rintro _ a0M ⟨⟨a0N,rfl,MS⟩,ZJ⟩;refine ⟨_,rfl,?_⟩;have aMn:=ZJ.size;have atV:=T.size;have YU:=aJ (Ap.new (aA.dU MS) (aI B4.lt));have Bh:=aJ (Ap.new (aA.dU MS) (aI aep.lt));have B4:=aX B4 ZJ;have aep:=aX aep ZJ;have T:=Tt T ZJ;replace MS:=aA.mono MS atV;refine RL.nil ⟨T,?_⟩;obtain ⟨agh,agi,rfl⟩:=aA.form MS;have aMo:=aA.bound MS;refine RT.y rfl rfl (Y.ank (cells:=#[.int .i64 d0.kind,.int .i64 d0.value,.slice agh Xo.length agi,.slice none 0 0]) rfl rfl rfl (by kernel_rfl) (by kernel_rfl))<|RT.act rfl ?_;refine RL.store (v:=.agg #[.int .i64 d0.kind,.int .i64 d0.value,.slice agh Xo.length agi,.slice none 0 0]) (cs':=#[.int .i64 d0.kind,.int .i64 d0.value,.slice agh Xo.length agi,.slice none 0 0]) rfl rfl rfl aep (by kernel_rfl) (by rfl) (by rfl) (by rfl) (fun a0O ayq ZK=>?_);have aMp:=ZK.size;have B4:=B4.bK ZK (by intro hin; simp at hin; exact Jq hin);have MS:=aA.only MS ZK Bh;have T:=T.trans (ZK.below (by first|(simp; done)|(simp; omega)));refine RL.nil ⟨T,?_⟩;refine RT.nil_<|ah<|awL (K:=(fun f w'=>∃(H9:ak) (BF:Value) (MV:Value) (CO:List Nat),f 0=.pointer (some ⟨qg,qh,none⟩)∧f 1=.int .i64 d1∧f 2=.int .i64 d2∧f 6=.pointer (some ⟨w.heap.size,0,none⟩)∧f 7=.pointer (some ⟨w7.heap.size,0,none⟩)∧dD w' w7.heap.size 38 #[.int .i64 H9.kind,.int .i64 H9.value,BF,MV]∧aA 2 encI 1 w' w.heap.size BF H9.data∧aH 38 dI 4 w' w.heap.size MV H9.kids CO∧Value.ownBlock BF ≠ some w.heap.size∧Value.ownBlock BF ≠ some w7.heap.size∧Ap CO (fb BF)∧Ap CO [w.heap.size]∧Ap CO [w7.heap.size]∧dD w' w.heap.size 38 #[.int .i64 0,.int .i64 0,.slice none 0 0,.slice none 0 0]∧Below w.heap.size w w'∧iU d0 d1 d2 self H9=some r)) ?_ ?_
   ·rintro f a0P ⟨H9,BF,MV,CO,atL,atM,atN,atO,atP,afq,Oe,Og,anT,Xp,Jr,anU,Xq,B4,T,hm⟩;unfold iU at hm;refine wp_seq<|wp_seq<|au rfl<|aW (.int .i64 0)<|RQ.nil<|ah<|wp_block ?_;obtain ⟨K1,hK1,hm⟩ :∃K,K=kS∧gJ d0 d1 d2 self K (d0.kids.length+1) 0 H9=some r:=⟨_,rfl,hm⟩;refine dG (fun g f w'=>∃(aer:Int) (z148:ak) (H_:Value) (YV:Value) (Le:List Nat),f 0=.pointer (some ⟨qg,qh,none⟩)∧f 1=.int .i64 d1∧f 2=.int .i64 d2∧f 6=.pointer (some ⟨w.heap.size,0,none⟩)∧f 7=.pointer (some ⟨w7.heap.size,0,none⟩)∧f 8=.int .i64 aer∧0≤aer∧dD w' w7.heap.size 38 #[.int .i64 z148.kind,.int .i64 z148.value,H_,YV]∧aA 2 encI 1 w' w.heap.size H_ z148.data∧aH 38 dI 4 w' w.heap.size YV z148.kids Le∧Value.ownBlock H_ ≠ some w.heap.size∧Value.ownBlock H_ ≠ some w7.heap.size∧Ap Le (fb H_)∧Ap Le [w.heap.size]∧Ap Le [w7.heap.size]∧dD w' w.heap.size 38 #[.int .i64 0,.int .i64 0,.slice none 0 0,.slice none 0 0]∧Below w.heap.size w w'∧gJ d0 d1 d2 self K1 g aer z148=some r) 0 (fun f w'=>∃(z138:ak) (UA:Value) (agB:Value) (Xr:List Nat),f 6=.pointer (some ⟨w.heap.size,0,none⟩)∧f 7=.pointer (some ⟨w7.heap.size,0,none⟩)∧dD w' w7.heap.size 38 #[.int .i64 z138.kind,.int .i64 z138.value,UA,agB]∧aA 2 encI 1 w' w.heap.size UA z138.data∧aH 38 dI 4 w' w.heap.size agB z138.kids Xr∧Value.ownBlock UA ≠ some w.heap.size∧Value.ownBlock UA ≠ some w7.heap.size∧Ap Xr (fb UA)∧Ap Xr [w.heap.size]∧Ap Xr [w7.heap.size]∧dD w' w.heap.size 38 #[.int .i64 0,.int .i64 0,.slice none 0 0,.slice none 0 0]∧Below w.heap.size w w'∧kS z138=some r) (d0.kids.length+1) ⟨0,H9,(BF),(MV),CO,atL,atM,atN,atO,atP,rfl,(by omega),afq,Oe,Og,(aJ (aP anT)),(aJ (aP Xp)),Jr,anU,Xq,B4,T,hm⟩ ?_ ?_
    ·rintro f bbH ⟨z138,UA,agB,Xr,ZI,ahQ,amE,Xt,Xu,anV,aCG,aes,anW,aCH,B4,T,hm⟩;unfold kS at hm;refine dW (ah ?_);refine wp_seq<|bF rfl<|Sm [.int .i64 z138.kind,.int .i64 z138.value,UA,agB] ahQ (cells4 (cu (aj amE (i:=0) rfl)) (cu (aj amE (i:=1) rfl)) (cu (aj amE (i:=2) rfl)) (cu (aj amE (i:=3) rfl))) ?_;obtain ⟨ahT,c141,rfl⟩:=aA.form Xt;have aMq:=aA.bound Xt;obtain ⟨aqy,c143,rfl⟩:=aH.form Xu;have a0Q:=aH.bound Xu;refine RL.store (v:=.agg #[.int .i64 z138.kind,.int .i64 z138.value,.slice ahT z138.data.length c141,.slice aqy z138.kids.length c143]) (cs':=#[.int .i64 z138.kind,.int .i64 z138.value,.slice ahT z138.data.length c141,.slice aqy z138.kids.length c143]) rfl ZI rfl B4 (by kernel_rfl) (by rfl) (by rfl) (by rfl) (fun aR6 aCI aqz=>?_);have aMr:=aqz.size;have amE:=amE.bK aqz (by intro hin; simp at hin; exact Jq.symm hin);have Xt:=aA.only Xt aqz anV;have Xu:=aH.only aC Xu aqz (Ap.one anW);have T:=T.trans (aqz.below (by first|(simp; done)|(simp; omega)));refine RL.nil<|ah<|wp_ret ?_;obtain rfl:=sj hm;exact (WJ (cs:=[.int .i64 z138.kind,.int .i64 z138.value,.slice ahT z138.data.length c141,.slice aqy z138.kids.length c143]) rfl rfl ZI (by kernel_rfl) (n_ aCI) ⟨⟨_,_,_,rfl,Xt,Xu,(Ap.symm aes)⟩,T⟩)
    rintro g f aYy ⟨aer,z148,H_,YV,Le,dQ,iF,yT,I8,D6,Qz,av3,ER,rQ,vK,abT,Oh,Js,UC,Oi,B4,T,hm⟩;rcases g with _|g
    ·simp only [gJ] at hm; cases hm
    obtain ⟨eU,d_,hm⟩ :∃z,z=gJ d0 d1 d2 self K1 g∧oP d0 d1 d2 self z K1 aer z148=some r:=⟨_,rfl,hm⟩;unfold oP at hm;refine wp_seq<|wp_seq<|au rfl<|aT Qz<|aT dQ<|Du rfl<|gy 3 rfl<|gZ (.slice A2 d0.kids.length c2) rfl (cu (cellT T (eu 3 _ rfl)))<|yH rfl<|iq (.bool (decide (aer < (d0.kids.length:Int))))<|RQ.nil<|ah ?_;rcases aB (decide (aer < (d0.kids.length:Int))) with ahU|ahU
    ·replace hm:=cF ahU hm;have pc150:=of_decide_eq_false ahU;refine iH ahU<|wp_exit ?_;exact (bQ (bQ (iW ⟨_,rfl,⟨z148,(H_),(YV),Le,I8,D6,ER,rQ,vK,(aJ (aP abT)),(aJ (aP Oh)),Js,UC,Oi,B4,T,(by rw [hK1] at hm; exact hm)⟩⟩)))
    replace hm:=cT ahU hm;have pc150:=of_decide_eq_true ahU;refine ig ahU<|wp_skip<|ah<|wp_seq<|wp_block ?_;refine Ux (fun w'=>dD w' w7.heap.size 38 #[.int .i64 z148.kind,.int .i64 z148.value,H_,YV]) (fun w'=>Below w.heap.size w w') 18 (.q 0 (.e 1 (.q 2 (.q 3 (.q 4 (.q 5 (.q 6 (.q 7 (.q 8 (.q 9 (.q 10 (.q 11 (.a 12 (.q 13 (.a 14 (.a 15 (.a 16 (.q 17 (.a 18 .nil))))))))))))))))))) (by kernel_rfl) (by kernel_rfl) (fun aBf afn ati=>?_);have B4:=aX B4 afn;have ER:=aX ER afn;have rQ:=aA.below rQ afn;have vK:=aH.below aC vK afn;have T:=Tt T afn;refine ⟨⟨ER,T⟩,?_⟩;refine RX.y rfl rfl (Y.fieldAddr (off:=3) D6 (by kernel_rfl))<|RX.e rfl rfl (Y.load (v:=YV) rfl (by kernel_rfl) (fun w' hS=>(aj hS.1 (i:=3) rfl)))<|RX.y rfl rfl (Y.move (v:=.pointer (some ⟨qg,qh,none⟩)) dQ)<|RX.y rfl rfl (Y.nilCheck rfl)<|RX.y rfl rfl (Y.fieldAddr (off:=3) rfl (by kernel_rfl))<|RX.y rfl rfl (Y.load (v:=.slice A2 d0.kids.length c2) rfl (by kernel_rfl) (fun w' hS=>(cellT hS (eu 3 _ rfl))))<|RX.y rfl rfl (Y.move (v:=.int .i64 aer) Qz) ?_;obtain ⟨x153,aCJ,hm⟩:=bnd hm;obtain ⟨a0R,aR7,aR8,aCJ⟩:=aU aCJ;obtain ⟨bbI,bbJ,rfl,aMs⟩:=h2.addr (by omega);obtain ⟨a9P,awP,hc159⟩:=h2.el aCJ;have aHs:=awP;obtain ⟨a0S,n162,c162,a0T,n163,a0U,rfl,⟨aMt,aMu⟩,⟨aMv,aMw⟩⟩:=(bG awP);obtain ⟨rfl,a0V⟩:=bI aMt aMu;obtain ⟨rfl,a0W⟩:=bI aMv aMw;refine RX.y rfl rfl (Y.indexAddr (m:=a0R) (sz:=4) rfl rfl aR7 aR8 (by kernel_rfl))<|RX.y rfl rfl (Y.move (v:=.int .i64 d1) iF)<|RX.y rfl rfl (Y.move (v:=.int .i64 d2) yT)<|RX.y rfl rfl (Y.move (v:=.pointer (some ⟨qg,qh,none⟩)) dQ)<|RX.y rfl rfl (Y.move (v:=.int .i64 aer) Qz)<|RX.act rfl rfl ?_;obtain ⟨bbK,e165,hm⟩:=bnd hm;refine RL.call rfl (qV rfl rfl) (by kernel_rfl) ((Hq d0 aer _ e165 _ _ (l9 aK qm qB eu T)).mono ?_);rintro _ aCK ⟨rfl,amF⟩;refine ⟨_,rfl,?_⟩;have a0X:=amF.size;have B4:=aX B4 amF;have ER:=aX ER amF;have rQ:=aA.below rQ amF;have vK:=aH.below aC vK amF;have T:=Tt T amF;refine RL.nil ⟨⟨ER,T⟩,?_⟩;obtain ⟨aR9,awQ,hm⟩:=bnd hm;replace awQ:=jg awQ;refine RX.y rfl rfl (Y.dS (v:=.int .i64 aR9) rfl rfl (by rw [bn awQ.2,awQ.1]))<|RX.act rfl rfl ?_;obtain ⟨QK,e170,hm⟩:=bnd hm;refine RL.call rfl (Vu rfl rfl rfl) (by kernel_rfl) ((ih x153 d1 aR9 _ (by rw [← hself]; exact e170) _ _ (l9 aK aMs aHs hc159 T)).mono ?_)
    rintro _ ap6 ⟨⟨v171,a0Y,VE,rfl,Lh,Lj,aaP⟩,Me⟩;refine ⟨_,rfl,?_⟩;have aMx:=Me.size;have ahV:=T.size;have ayr:=aJ (Ap.new (aA.dU Lh) (aI B4.lt));have Xv:=aJ (Ap.new (aA.dU Lh) (aI ER.lt));have akf:=Ap.dj (Ap.new (aA.dU Lh) (aA.je rQ));have akg:Ap (fb v171) Le:=(Ap.new (aA.dU Lh) (aH.hi vK));have ays:Ap VE [w.heap.size]:=(Ap.new (aH.jB Lj) (aI B4.lt));have Xw:Ap VE [w7.heap.size]:=(Ap.new (aH.jB Lj) (aI ER.lt));have akh:Ap VE (fb H_):=(Ap.new (aH.jB Lj) (aA.je rQ));have aki:Ap VE Le:=(Ap.new (aH.jB Lj) (aH.hi vK));have B4:=aX B4 Me;have ER:=aX ER Me;have rQ:=aA.below rQ Me;have vK:=aH.below aC vK Me;have T:=Tt T Me;replace Lh:=aA.mono Lh ahV;replace Lj:=aH.mono Lj ahV;refine RL.nil ⟨⟨ER,T⟩,?_⟩;refine RX.act rfl rfl ?_;obtain ⟨atW,aCL,rfl⟩:=aA.form Lh;have aMy:=aA.bound Lh;obtain ⟨aMz,aMA,rfl⟩:=aH.form Lj;have aMB:=aH.bound Lj;refine RL.yD (e:=38) (cells:=#[.int .i64 QK.kind,.int .i64 QK.value,.slice atW QK.data.length aCL,.slice aMz QK.kids.length aMA]) rfl (pm1 rfl) (by kernel_rfl) (fun aMC aMD MG aME=>?_);have aCM:w.heap.size≤ap6.heap.size:=T.size;have aMF:=aA.yP Lh (dB);have aMG:=aH.both Lj (dB);have aMH:=Ap.cons (Ap.ku (aI B4.lt)) (Ap.append (aP ayr) ays);have aMI:=Ap.cons (Ap.ku (aI ER.lt)) (Ap.append (aP Xv) Xw);have aMJ:=Ap.cons (Ap.ku (aA.je rQ)) (Ap.append (Dj.ap akf) akh);have z193:=Ap.cons (Ap.ku (aH.hi vK)) (Ap.append akg aki);have B4:=aX B4 MG;have ER:=aX ER MG;have rQ:=aA.below rQ MG;have vK:=aH.below aC vK MG;have Lh:=aA.below Lh MG;have Lj:=aH.below aC Lj MG;have T:=Tt T MG;obtain ⟨aR_,a194,aSa,aJG,a0Z⟩:=aA.EN fI Lh;obtain ⟨_,_,_,aSb,aMK,a00,aSc,aJH,a01⟩:=aH.Ua aC Lj;injection aMK with e1 e2 e3; subst e1 e2 e3;have aML:aH 38 dI 4 aMC w.heap.size (.slice (some ⟨ap6.heap.size,0,none⟩) 1 1) [QK] (ap6.heap.size :: ((fb (.slice atW QK.data.length aCL)) ++ VE)):=aH.agZ (b1:=(aR_ ++ aSb)) aMD aCM (Jh ⟨_,_,_,_,_,_,aR_,aSb,rfl,⟨a194,a0Z⟩,⟨a00,a01⟩,rfl⟩) aC (ql aSa aSc aJG aJH aaP) (yO aJG aJH) (all2 aMF aMG)
    refine RL.nil ⟨⟨ER,T⟩,?_⟩;refine RX.act rfl rfl ?_;obtain ⟨_,a02,hm⟩:=bnd hm;have aSd:=h_ a02;refine RL.GX aC NI (by decide) EO rfl rfl rfl vK aML (Ap.symm z193) T.size aSd (fun v208 aSe aSf aCN atX aCO atY=>?_);have aMM:=aCO.size;have aMN:=Ap.app atY UC aMH (aI B4.lt);have ayt:=Ap.app atY Oi aMI (aI ER.lt);have z218:=Ap.app atY Js aMJ (aA.je rQ);have B4:=dD.kept B4 atX (aH.ML vK UC);have ER:=dD.kept ER atX (aH.ML vK Oi);have rQ:=aA.Aa rQ atX (aH.dj vK Js);have T:=T.trans aCO;refine RL.nil ⟨⟨ER,T⟩,?_⟩;refine RX.y rfl rfl (Y.fieldAddr (off:=3) D6 (by kernel_rfl))<|RX.anM rfl rfl ?_;obtain ⟨aHt,aHu,rfl⟩:=aH.form aCN;have aMO:=aH.bound aCN;refine RL.store (v:=.slice aHt ((z148.kids ++ [QK]).length) aHu) (cs':=#[.int .i64 z148.kind,.int .i64 z148.value,H_,.slice aHt ((z148.kids ++ [QK]).length) aHu]) rfl rfl rfl ER (by kernel_rfl) (by rfl) (by rfl) (by rfl) (fun bbL a03 aqA=>?_);have a04:=aqA.size;have B4:=B4.bK aqA (by intro hin; simp at hin; exact Jq hin);have rQ:=aA.only rQ aqA Oh;have aCN:=aH.only aC aCN aqA (Ap.one ayt);have T:=T.trans (aqA.below (by first|(simp; done)|(simp; omega)));refine RL.nil ⟨T,?_⟩;refine RX.nil_ ?_;refine eF (ah ?_);refine au rfl<|aT Qz<|RQ.y rfl (Y.dS rfl rfl (bn (m:=aer) (by omega)))<|aW (.int .i64 (aer+1))<|RQ.nil ?_;exact (ah ⟨g,_,Nat.lt_succ_self _,rfl,⟨(aer+1),(⟨z148.kind,z148.value,z148.data,(z148.kids ++ [QK])⟩:ak),(H_),(.slice aHt ((z148.kids ++ [QK]).length) aHu),aSf,dQ,iF,yT,I8,D6,rfl,(by omega),a03,rQ,aCN,(aJ (aP abT)),(aJ (aP Oh)),z218,aMN,ayt,B4,T,(by rw [← d_]; exact hm)⟩⟩)
   intro atU;refine wp_seq<|wp_seq<|au rfl<|aT s0<|Du rfl<|gy 0 rfl<|gZ (.int .i64 d0.kind) rfl (cu (cellT T (eu 0 _ rfl)))<|iq (.bool (d0.kind==1))<|dF (.bool (d0.kind==1)) ?_;rcases aB (d0.kind==1) with agj|agj
   ·replace hm:=cF agj hm;iterate 6 refine RQ.skip (oL 28 agj) ?_
    refine dN false (.bool false) (vb rfl agj)<|RQ.nil<|ah<|gU rfl rfl<|wp_skip<|ah ?_;exact atU _ _ ⟨(⟨d0.kind,d0.value,Xo,[]⟩:ak),(.slice agh Xo.length agi),(.slice none 0 0),[],s0,s1,s2,rfl,rfl,ayq,MS,aH.nil,(aJ (aP YU)),(aJ (aP Bh)),Ap.nil,Ap.nil,Ap.nil,B4,T,hm⟩
   replace hm:=cT agj hm;refine RQ.y (bT 28 agj) (Y.move (v:=.pointer (some ⟨qg,qh,none⟩)) s0)<|RQ.y (bT 28 agj) (Y.nilCheck rfl)<|RQ.y (bT 28 agj) (Y.fieldAddr (off:=1) rfl (by kernel_rfl))<|RQ.y (bT 28 agj) (Y.load (v:=.int .i64 d0.value) rfl (by kernel_rfl) (cu (cellT T (eu 1 _ rfl))))<|RQ.y (bT 28 agj) (Y.move (v:=.int .i64 d2) s2)<|RQ.y (bT 28 agj) (Y.dS (v:=.bool (decide (d0.value ≥ d2))) rfl rfl rfl)<|dN true (.bool (decide (d0.value ≥ d2))) (vb rfl agj)<|RQ.nil<|ah ?_;rcases aB (decide (d0.value ≥ d2)) with c226|c226
   ·replace hm:=cF c226 hm;have aSg:=of_decide_eq_false c226;refine iH c226<|wp_skip<|ah ?_;exact atU _ _ ⟨(⟨d0.kind,d0.value,Xo,[]⟩:ak),(.slice agh Xo.length agi),(.slice none 0 0),[],s0,s1,s2,rfl,rfl,ayq,MS,aH.nil,(aJ (aP YU)),(aJ (aP Bh)),Ap.nil,Ap.nil,Ap.nil,B4,T,hm⟩
   replace hm:=cT c226 hm;have aSg:=of_decide_eq_true c226;refine ig c226<|bF rfl<|rC 1 rfl<|I7 (.int .i64 d0.value) rfl (cu (aj ayq (i:=1) rfl))<|kE s1 ?_;obtain ⟨aHv,awR,hm⟩:=bnd hm;replace awR:=jg awR;refine aPF (.int .i64 aHv) rfl rfl (by rw [bn awR.2,awR.1])<|rC 1 rfl ?_;refine RL.store (v:=.int .i64 aHv) (cs':=#[.int .i64 d0.kind,.int .i64 aHv,.slice agh Xo.length agi,.slice none 0 0]) rfl rfl rfl ayq (by kernel_rfl) (by rfl) (by rfl) (by rfl) (fun bbM a05 awS=>?_);have a06:=awS.size;have B4:=B4.bK awS (by intro hin; simp at hin; exact Jq hin);have MS:=aA.only MS awS Bh;have T:=T.trans (awS.below (by first|(simp; done)|(simp; omega)));refine RL.nil<|ah ?_;exact atU _ _ ⟨(⟨d0.kind,aHv,Xo,[]⟩:ak),(.slice agh Xo.length agi),(.slice none 0 0),[],s0,s1,s2,rfl,rfl,a05,MS,aH.nil,(aJ (aP YU)),(aJ (aP Bh)),Ap.nil,Ap.nil,Ap.nil,B4,T,hm⟩
noncomputable def J3 (d0:ak):Option ak:=
  ((oJ (SizeOf.sizeOf d0) d0 0 0).bind fun y7=>some y7)
set_option maxHeartbeats 2000000 in
theorem agk (d0:ak) (r:ak) (hm:J3 d0=some r) (v0:Value) (w:World) (hv0:Pt bf w v0 d0) :
    Calls Tryz.prog 86 #[v0] w fun e w'=>(∃(v0:Value) (v1:Value) (Ag:List Nat),e=.returned (.agg #[.int .i64 r.kind,.int .i64 r.value,v0,v1])∧aA 2 encI 1 w' w.heap.size v0 r.data∧aH 38 dI 4 w' w.heap.size v1 r.kids Ag∧Ap (fb v0) Ag)∧Below w.heap.size w w':=by
  obtain ⟨qg,qh,lg,rfl,qm,jR,eu⟩:=hv0;have qB:=jR;obtain ⟨A1,n1,c1,A2,n2,c2,rfl,⟨h1,r1⟩,⟨h2,r2⟩⟩:=(bG jR);obtain ⟨rfl,q1⟩:=bI h1 r1;obtain ⟨rfl,q2⟩:=bI h2 r2;have T:=Below.refl w.heap.size w;unfold J3 at hm;refine enter 5 Tryz.func86 rfl rfl rfl ?_;intro f hf;have s0:f 0=.pointer (some ⟨qg,qh,none⟩):=hf 0 _ rfl;refine wp_seq<|bF rfl ?_;refine RL.alloc (z:=.agg #[.int .i64 0,.int .i64 0,.slice none 0 0,.slice none 0 0]) rfl (by kernel_rfl) (fun w3 B4 hb5 LP=>?_);replace B4:dD w3 w.heap.size 38 #[.int .i64 0,.int .i64 0,.slice none 0 0,.slice none 0 0]:=B4;have GB4:w.heap.size≤w.heap.size:=T.size;have T:=Tt T hb5;refine RL.nil<|ah<|wp_seq<|bF rfl<|kE s0 ?_;obtain ⟨y7,e8,hm⟩:=bnd hm;refine RL.call rfl (Vu rfl rfl rfl) (by kernel_rfl) ((abP (SizeOf.sizeOf d0) d0 0 0 _ e8 _ _ (l9 aK qm qB eu T)).mono ?_);rintro _ w16 ⟨⟨v9,v12,a07,rfl,G10,kY,aCP⟩,Dq⟩;refine ⟨_,rfl,?_⟩;have av5:=Dq.size;have aJI:=T.size;have aCQ:=aJ (Ap.new (aA.dU G10) (aI B4.lt));have aCR:Ap a07 [w.heap.size]:=(Ap.new (aH.jB kY) (aI B4.lt));have B4:=aX B4 Dq;have T:=Tt T Dq;replace G10:=aA.mono G10 aJI;replace kY:=aH.mono kY aJI;obtain ⟨A18,c19,rfl⟩:=aA.form G10;have aQi:=aA.bound G10;obtain ⟨A20,c21,rfl⟩:=aH.form kY;have aSh:=aH.bound kY;refine RL.store (v:=.agg #[.int .i64 y7.kind,.int .i64 y7.value,.slice A18 y7.data.length c19,.slice A20 y7.kids.length c21]) (cs':=#[.int .i64 y7.kind,.int .i64 y7.value,.slice A18 y7.data.length c19,.slice A20 y7.kids.length c21]) rfl rfl rfl B4 (by kernel_rfl) (by rfl) (by rfl) (by rfl) (fun MO B23 anO=>?_);have amn:=anO.size;have G10:=aA.only G10 anO aCQ;have kY:=aH.only aC kY anO (Ap.one aCR);have T:=T.trans (anO.below (by first|(simp; done)|(simp; omega)));refine RL.nil<|ah<|wp_ret ?_;obtain rfl:=sj hm;exact (WJ (cs:=[.int .i64 y7.kind,.int .i64 y7.value,.slice A18 y7.data.length c19,.slice A20 y7.kids.length c21]) rfl rfl rfl (by kernel_rfl) (n_ B23) ⟨⟨_,_,_,rfl,G10,kY,aCP⟩,T⟩)
noncomputable def vU (d0:ay):Option ay:=
  ((og d0.env).bind fun y8=>(bif (d0.term.kind != 0) then ((J3 d0.term).bind fun y28=>some (⟨(⟨y28.kind,y28.value,y28.data,y28.kids⟩:ak),y8⟩:ay)) else some (⟨(⟨0,0,[],[]⟩:ak),y8⟩:ay)))
set_option maxHeartbeats 2000000 in
theorem CP (d0:ay) (r:ay) (hm:vU d0=some r) (v0:Value) (w:World) (hv0:Pt dM w v0 d0) :
    Calls Tryz.prog 51 #[v0] w fun e w'=>(∃(v0:Value) (v1:Value) (Ag:List Nat) (v2:Value),e=.returned (.agg #[.int .i64 r.term.kind,.int .i64 r.term.value,v0,v1,v2])∧aA 2 encI 1 w' w.heap.size v0 r.term.data∧aH 38 dI 4 w' w.heap.size v1 r.term.kids Ag∧aA 2 encI 1 w' w.heap.size v2 r.env∧Ap (fb v0) Ag∧Dj v0 v2∧Ap Ag (fb v2))∧Below w.heap.size w w':=by
  obtain ⟨qg,qh,lg,rfl,qm,jR,eu⟩:=hv0;have qB:=jR;obtain ⟨A1,n1,c1,A2,n2,c2,A3,n3,c3,rfl,⟨h1,r1⟩,⟨h2,r2⟩,⟨h3,r3⟩⟩:=jR;obtain ⟨rfl,q1⟩:=bI h1 r1;obtain ⟨rfl,q2⟩:=bI h2 r2;obtain ⟨rfl,q3⟩:=bI h3 r3;have T:=Below.refl w.heap.size w;unfold vU at hm;refine enter 22 Tryz.func51 rfl rfl rfl ?_;intro f hf;have s0:f 0=.pointer (some ⟨qg,qh,none⟩):=hf 0 _ rfl;refine wp_seq<|bF rfl ?_;refine RL.alloc (z:=.agg #[.int .i64 0,.int .i64 0,.slice none 0 0,.slice none 0 0,.slice none 0 0]) rfl (by kernel_rfl) (fun w4 B5 hb6 aha=>?_);replace B5:dD w4 w.heap.size 40 #[.int .i64 0,.int .i64 0,.slice none 0 0,.slice none 0 0,.slice none 0 0]:=B5;have GB5:w.heap.size≤w.heap.size:=T.size;have T:=Tt T hb6;refine RL.nil<|ah<|wp_seq<|bF rfl<|kE s0<|aLn rfl<|rC 4 rfl<|I7 (.slice A3 d0.env.length c3) rfl (cu (cellT T (eu 4 _ rfl))) ?_;obtain ⟨y8,e9,hm⟩:=bnd hm;refine RL.call rfl (qZ rfl) (by kernel_rfl) ((BX d0.env _ e9 _ _ (eY aG h3 r3 T)).mono ?_);rintro _ w13 ⟨⟨v10,rfl,G11⟩,LQ⟩;refine ⟨_,rfl,?_⟩;have apZ:=LQ.size;have aSi:=T.size;have aqB:=aJ (Ap.new (aA.dU G11) (aI B5.lt));have B5:=aX B5 LQ;have T:=Tt T LQ;replace G11:=aA.mono G11 aSi;obtain ⟨A15,c16,rfl⟩:=aA.form G11;have a9Q:=aA.bound G11;refine RL.y rfl (Y.asN (cells:=#[.int .i64 0,.int .i64 0,.slice none 0 0,.slice none 0 0,.slice A15 y8.length c16]) rfl (by kernel_rfl) (by kernel_rfl)) ?_;refine RL.alloc (z:=.agg #[.int .i64 0,.int .i64 0,.slice none 0 0,.slice none 0 0,.slice none 0 0]) rfl (by kernel_rfl) (fun w17 B18 EP awh=>?_);replace B18:dD w17 w13.heap.size 40 #[.int .i64 0,.int .i64 0,.slice none 0 0,.slice none 0 0,.slice none 0 0]:=B18;have aYF:w.heap.size≤w13.heap.size:=T.size;have YW:=Nat.ne_of_lt B5.lt;have amG:=aA.far G11 (dB);have B5:=aX B5 EP;have G11:=aA.below G11 EP;have T:=Tt T EP;refine RL.store (v:=.agg #[.int .i64 0,.int .i64 0,.slice none 0 0,.slice none 0 0,.slice A15 y8.length c16]) (cs':=#[.int .i64 0,.int .i64 0,.slice none 0 0,.slice none 0 0,.slice A15 y8.length c16]) rfl rfl rfl B18 (by kernel_rfl) (by rfl) (by rfl) (by rfl) (fun w21 B22 ate=>?_);have awk:=ate.size;have B5:=B5.bK ate (by intro hin; simp at hin; exact YW hin);have G11:=aA.only G11 ate amG;have T:=T.trans (ate.below (by first|(simp; done)|(simp; omega)));refine RL.nil<|ah<|wp_seq<|wp_seq<|au rfl<|aT s0<|Du rfl<|gy 0 rfl<|gy 0 rfl<|gZ (.int .i64 d0.term.kind) rfl (cu (cellT T (eu 0 _ rfl)))<|iq (.bool (d0.term.kind != 0))<|RQ.nil<|ah ?_
  rcases aB (d0.term.kind != 0) with c24|c24
  ·replace hm:=cF c24 hm;refine iH c24<|wp_skip<|ah<|wp_seq<|bF rfl<|Sm [.int .i64 0,.int .i64 0,.slice none 0 0,.slice none 0 0,.slice A15 y8.length c16] rfl (cells5 (cu (aj B22 (i:=0) rfl)) (cu (aj B22 (i:=1) rfl)) (cu (aj B22 (i:=2) rfl)) (cu (aj B22 (i:=3) rfl)) (cu (aj B22 (i:=4) rfl))) ?_;refine RL.store (v:=.agg #[.int .i64 0,.int .i64 0,.slice none 0 0,.slice none 0 0,.slice A15 y8.length c16]) (cs':=#[.int .i64 0,.int .i64 0,.slice none 0 0,.slice none 0 0,.slice A15 y8.length c16]) rfl rfl rfl B5 (by kernel_rfl) (by rfl) (by rfl) (by rfl) (fun w25 B26 aHw=>?_);have aI4:=aHw.size;have B22:=B22.bK aHw (by intro hin; simp at hin; exact YW.symm hin);have G11:=aA.only G11 aHw aqB;have T:=T.trans (aHw.below (by first|(simp; done)|(simp; omega)));refine RL.nil<|ah<|wp_ret ?_;obtain rfl:=sj hm;exact (WJ (cs:=[.int .i64 0,.int .i64 0,.slice none 0 0,.slice none 0 0,.slice A15 y8.length c16]) rfl rfl rfl (by kernel_rfl) (n_ B26) ⟨⟨_,_,_,_,rfl,aA.nil,aH.nil,G11,Ap.nil,Dj.nil,Ap.nil⟩,T⟩)
  replace hm:=cT c24 hm;refine ig c24<|bF rfl<|kE s0<|aLn rfl<|rC 0 rfl ?_;obtain ⟨y28,e29,hm⟩:=bnd hm;refine RL.call rfl (qZ rfl) (by kernel_rfl) ((agk d0.term _ e29 _ _ (NG (R:=bf) aK qm (pre:=[]) (cs:=[.int .i64 d0.term.kind,.int .i64 d0.term.value,.slice A1 d0.term.data.length c1,.slice A2 d0.term.kids.length c2]) (post:=[.slice A3 d0.env.length c3]) (dR ⟨_,_,_,_,_,_,rfl,⟨h1,r1⟩,⟨h2,r2⟩⟩) eu T)).mono ?_);rintro _ w37 ⟨⟨v30,v33,aMP,rfl,G31,G34,aCS⟩,afX⟩;refine ⟨_,rfl,?_⟩;have a9R:=afX.size;have aJJ:=T.size;have aCT:=aJ (Ap.new (aA.dU G31) (aI B5.lt));have ayu:=aJ (Ap.new (aA.dU G31) (aI B22.lt));have aCU:=Ap.dj (Ap.new (aA.dU G31) (aA.je G11));have aCV:Ap aMP [w.heap.size]:=(Ap.new (aH.jB G34) (aI B5.lt));have ayv:Ap aMP [w13.heap.size]:=(Ap.new (aH.jB G34) (aI B22.lt));have aCW:Ap aMP (fb (.slice A15 y8.length c16)):=(Ap.new (aH.jB G34) (aA.je G11));have B5:=aX B5 afX;have B22:=aX B22 afX;have G11:=aA.below G11 afX;have T:=Tt T afX;replace G31:=aA.mono G31 aJJ;replace G34:=aH.mono G34 aJJ;refine rC 0 rfl ?_;obtain ⟨A39,c40,rfl⟩:=aA.form G31;have a9S:=aA.bound G31;obtain ⟨A41,MQ,rfl⟩:=aH.form G34;have aBF:=aH.bound G34;refine RL.store (v:=.agg #[.int .i64 y28.kind,.int .i64 y28.value,.slice A39 y28.data.length c40,.slice A41 y28.kids.length MQ]) (cs':=#[.int .i64 y28.kind,.int .i64 y28.value,.slice A39 y28.data.length c40,.slice A41 y28.kids.length MQ,.slice A15 y8.length c16]) rfl rfl rfl B22 (by kernel_rfl) (by rfl) (by rfl) (by rfl) (fun Sr B44 QI=>?_);have aBG:=QI.size;have B5:=B5.bK QI (by intro hin; simp at hin; exact YW hin);have G11:=aA.only G11 QI amG;have G31:=aA.only G31 QI ayu;have G34:=aH.only aC G34 QI (Ap.one ayv);have T:=T.trans (QI.below (by first|(simp; done)|(simp; omega)));refine RL.nil<|ah<|wp_seq<|bF rfl<|Sm [.int .i64 y28.kind,.int .i64 y28.value,.slice A39 y28.data.length c40,.slice A41 y28.kids.length MQ,.slice A15 y8.length c16] rfl (cells5 (cu (aj B44 (i:=0) rfl)) (cu (aj B44 (i:=1) rfl)) (cu (aj B44 (i:=2) rfl)) (cu (aj B44 (i:=3) rfl)) (cu (aj B44 (i:=4) rfl))) ?_;refine RL.store (v:=.agg #[.int .i64 y28.kind,.int .i64 y28.value,.slice A39 y28.data.length c40,.slice A41 y28.kids.length MQ,.slice A15 y8.length c16]) (cs':=#[.int .i64 y28.kind,.int .i64 y28.value,.slice A39 y28.data.length c40,.slice A41 y28.kids.length MQ,.slice A15 y8.length c16]) rfl rfl rfl B5 (by kernel_rfl) (by rfl) (by rfl) (by rfl) (fun w46 B47 Uw=>?_)
  have aAN:=Uw.size;have B44:=B44.bK Uw (by intro hin; simp at hin; exact YW.symm hin);have G11:=aA.only G11 Uw aqB;have G31:=aA.only G31 Uw aCT;have G34:=aH.only aC G34 Uw (Ap.one aCV);have T:=T.trans (Uw.below (by first|(simp; done)|(simp; omega)));refine RL.nil<|ah<|wp_ret ?_;obtain rfl:=sj hm;exact (WJ (cs:=[.int .i64 y28.kind,.int .i64 y28.value,.slice A39 y28.data.length c40,.slice A41 y28.kids.length MQ,.slice A15 y8.length c16]) rfl rfl rfl (by kernel_rfl) (n_ B47) ⟨⟨_,_,_,_,rfl,G31,G34,G11,aCS,(Ap.dj (Dj.ap aCU)),aCW⟩,T⟩)
noncomputable def pz (z39:aN):Option aN:=
  some z39
noncomputable def ug (d0:aN) (Jk:Int→aN→Option aN) (K2:aN→Option aN) (i54:Int) (z55:aN):Option aN:=
  (bif (decide (i54 < (d0.heap.length:Int))) then ((fC d0.heap i54).bind fun x60=>((fC d0.heap i54).bind fun x72=>((vU x72.closure).bind fun LJ=>((yB (z55.heap.length+([(⟨x60.done,(⟨(⟨LJ.term.kind,LJ.term.value,LJ.term.data,LJ.term.kids⟩:ak),LJ.env⟩:ay)⟩:bD)]).length≤4294967296)).bind fun _=>(Jk (i54+1) (⟨(⟨(⟨z55.control.term.kind,z55.control.term.value,z55.control.term.data,z55.control.term.kids⟩:ak),z55.control.env⟩:ay),z55.stack,(z55.heap ++ [(⟨x60.done,(⟨(⟨LJ.term.kind,LJ.term.value,LJ.term.data,LJ.term.kids⟩:ak),LJ.env⟩:ay)⟩:bD)])⟩:aN)))))) else (K2 z55))
noncomputable def jr (d0:aN) (K2:aN→Option aN):Nat→Int→aN→Option aN
  |0,_,_=>none
  |g+1,i54,z55=>ug d0 (jr d0 K2 g) K2 i54 z55
noncomputable def mO (d0:aN) (z37:aN):Option aN:=
  (jr d0 pz (d0.heap.length+1) 0 z37)
noncomputable def uh (d0:aN) (eU:Int→aN→Option aN) (K1:aN→Option aN) (Zq:Int) (z156:aN):Option aN:=
  (bif (decide (Zq < (d0.stack.length:Int))) then ((fC d0.stack Zq).bind fun x159=>((og x159.data).bind fun ahW=>((vU x159.closure).bind fun wE=>((yB (z156.stack.length+([(⟨x159.kind,x159.value,ahW,(⟨(⟨wE.term.kind,wE.term.value,wE.term.data,wE.term.kids⟩:ak),wE.env⟩:ay)⟩:aO)]).length≤4294967296)).bind fun _=>(eU (Zq+1) (⟨(⟨(⟨z156.control.term.kind,z156.control.term.value,z156.control.term.data,z156.control.term.kids⟩:ak),z156.control.env⟩:ay),(z156.stack ++ [(⟨x159.kind,x159.value,ahW,(⟨(⟨wE.term.kind,wE.term.value,wE.term.data,wE.term.kids⟩:ak),wE.env⟩:ay)⟩:aO)]),z156.heap⟩:aN)))))) else (K1 z156))
noncomputable def jv (d0:aN) (K1:aN→Option aN):Nat→Int→aN→Option aN
  |0,_,_=>none
  |g+1,Zq,z156=>uh d0 (jv d0 K1 g) K1 Zq z156
noncomputable def zF (d0:aN):Option aN:=
  ((vU d0.control).bind fun tK=>(jv d0 (mO d0) (d0.stack.length+1) 0 (⟨(⟨(⟨tK.term.kind,tK.term.value,tK.term.data,tK.term.kids⟩:ak),tK.env⟩:ay),[],[]⟩:aN)))
set_option maxHeartbeats 2000000 in
theorem Zr (d0:aN) (r:aN) (hm:zF d0=some r) (v0:Value) (w:World) (hv0:Pt jQ w v0 d0) :
    Calls Tryz.prog 50 #[v0] w fun e w'=>(∃(v0:Value) (v1:Value) (Ag:List Nat) (v2:Value) (v3:Value) (Qb:List Nat) (v4:Value) (Qc:List Nat),e=.returned (.agg #[.int .i64 r.control.term.kind,.int .i64 r.control.term.value,v0,v1,v2,v3,v4])∧aA 2 encI 1 w' w.heap.size v0 r.control.term.data∧aH 38 dI 4 w' w.heap.size v1 r.control.term.kids Ag∧aA 2 encI 1 w' w.heap.size v2 r.control.env∧aH 77 dZ 8 w' w.heap.size v3 r.stack Qb∧aH 73 fD 6 w' w.heap.size v4 r.heap Qc∧Ap (fb v0) Ag∧Dj v0 v2∧Ap Ag (fb v2)∧Ap (fb v0) Qb∧Ap Ag Qb∧Ap (fb v2) Qb∧Ap (fb v0) Qc∧Ap Ag Qc∧Ap (fb v2) Qc∧Ap Qb Qc)∧Below w.heap.size w w':=by
  obtain ⟨qg,qh,lg,rfl,qm,jR,eu⟩:=hv0;have qB:=jR;obtain ⟨A1,n1,c1,A2,n2,c2,A3,n3,c3,A4,n4,c4,A5,n5,c5,rfl,⟨h1,r1⟩,⟨h2,r2⟩,⟨h3,r3⟩,⟨h4,r4⟩,⟨h5,r5⟩⟩:=jR;obtain ⟨rfl,q1⟩:=bI h1 r1;obtain ⟨rfl,q2⟩:=bI h2 r2;obtain ⟨rfl,q3⟩:=bI h3 r3;obtain ⟨rfl,q4⟩:=bI h4 r4;obtain ⟨rfl,q5⟩:=bI h5 r5;have T:=Below.refl w.heap.size w;unfold zF at hm;refine enter 82 Tryz.func50 rfl rfl rfl ?_;intro f hf;have s0:f 0=.pointer (some ⟨qg,qh,none⟩):=hf 0 _ rfl;refine wp_seq<|bF rfl ?_;refine RL.alloc (z:=.agg #[.int .i64 0,.int .i64 0,.slice none 0 0,.slice none 0 0,.slice none 0 0,.slice none 0 0,.slice none 0 0]) rfl (by kernel_rfl) (fun w6 B7 hb8 axO=>?_);replace B7:dD w6 w.heap.size 44 #[.int .i64 0,.int .i64 0,.slice none 0 0,.slice none 0 0,.slice none 0 0,.slice none 0 0,.slice none 0 0]:=B7;have GB7:w.heap.size≤w.heap.size:=T.size;have T:=Tt T hb8;refine RL.nil<|ah<|wp_seq<|bF rfl<|kE s0<|aLn rfl<|rC 0 rfl ?_;obtain ⟨tK,e11,hm⟩:=bnd hm;refine RL.call rfl (qZ rfl) (by kernel_rfl) ((CP d0.control _ e11 _ _ (NG (R:=dM) qA qm (pre:=[]) (cs:=[.int .i64 d0.control.term.kind,.int .i64 d0.control.term.value,.slice A1 d0.control.term.data.length c1,.slice A2 d0.control.term.kids.length c2,.slice A3 d0.control.env.length c3]) (post:=[.slice A4 d0.stack.length c4,.slice A5 d0.heap.length c5]) ⟨_,_,_,_,_,_,_,_,_,rfl,⟨h1,r1⟩,⟨h2,r2⟩,⟨h3,r3⟩⟩ eu T)).mono ?_);rintro _ MO ⟨⟨v12,v15,aSj,v19,rfl,kY,G16,Wu,aCX,aCY,aCZ⟩,LU⟩;refine ⟨_,rfl,?_⟩;have amn:=LU.size;have aC0:=T.size;have aqC:=aJ (Ap.new (aA.dU kY) (aI B7.lt));have aC1:Ap aSj [w.heap.size]:=(Ap.new (aH.jB G16) (aI B7.lt));have ahX:=aJ (Ap.new (aA.dU Wu) (aI B7.lt));have B7:=aX B7 LU;have T:=Tt T LU;replace kY:=aA.mono kY aC0;replace G16:=aH.mono G16 aC0;replace Wu:=aA.mono Wu aC0;obtain ⟨A24,c25,rfl⟩:=aA.form kY;have a9T:=aA.bound kY;obtain ⟨A26,Vx,rfl⟩:=aH.form G16;have a9U:=aH.bound G16;obtain ⟨A28,c29,rfl⟩:=aA.form Wu;have aJy:=aA.bound Wu;refine RL.y rfl (Y.asN (cells:=#[.int .i64 tK.term.kind,.int .i64 tK.term.value,.slice A24 tK.term.data.length c25,.slice A26 tK.term.kids.length Vx,.slice A28 tK.env.length c29,.slice none 0 0,.slice none 0 0]) rfl (by kernel_rfl) (by kernel_rfl)) ?_;refine RL.alloc (z:=.agg #[.int .i64 0,.int .i64 0,.slice none 0 0,.slice none 0 0,.slice none 0 0,.slice none 0 0,.slice none 0 0]) rfl (by kernel_rfl) (fun w30 B31 Wh ahm=>?_)
  replace B31:dD w30 MO.heap.size 44 #[.int .i64 0,.int .i64 0,.slice none 0 0,.slice none 0 0,.slice none 0 0,.slice none 0 0,.slice none 0 0]:=B31;have bbN:w.heap.size≤MO.heap.size:=T.size;have YX:=Nat.ne_of_lt B7.lt;have amH:=aA.far kY (dB);have amI:=Ap.far (aH.hi G16);have amJ:=aA.far Wu (dB);have B7:=aX B7 Wh;have kY:=aA.below kY Wh;have G16:=aH.below aC G16 Wh;have Wu:=aA.below Wu Wh;have T:=Tt T Wh;refine RL.store (v:=.agg #[.int .i64 tK.term.kind,.int .i64 tK.term.value,.slice A24 tK.term.data.length c25,.slice A26 tK.term.kids.length Vx,.slice A28 tK.env.length c29,.slice none 0 0,.slice none 0 0]) (cs':=#[.int .i64 tK.term.kind,.int .i64 tK.term.value,.slice A24 tK.term.data.length c25,.slice A26 tK.term.kids.length Vx,.slice A28 tK.env.length c29,.slice none 0 0,.slice none 0 0]) rfl rfl rfl B31 (by kernel_rfl) (by rfl) (by rfl) (by rfl) (fun w34 B35 ayw=>?_);have awJ:=ayw.size;have B7:=B7.bK ayw (by intro hin; simp at hin; exact YX hin);have kY:=aA.only kY ayw amH;have G16:=aH.only aC G16 ayw (Ap.one amI);have Wu:=aA.only Wu ayw amJ;have T:=T.trans (ayw.below (by first|(simp; done)|(simp; omega)));refine RL.nil<|ah<|wp_seq<|wp_seq<|au rfl<|aW (.int .i64 0)<|RQ.nil<|ah<|wp_block ?_;obtain ⟨K1,hK1,hm⟩ :∃K,K=(mO d0)∧jv d0 K (d0.stack.length+1) 0 (⟨(⟨(⟨tK.term.kind,tK.term.value,tK.term.data,tK.term.kids⟩:ak),tK.env⟩:ay),[],[]⟩:aN)=some r:=⟨_,rfl,hm⟩;refine dG (fun g f w'=>∃(Zq:Int) (z156:aN) (Dk:Value) (UD:Value) (zG:List Nat) (Dl:Value) (YZ:Value) (AX:List Nat) (UE:Value) (zH:List Nat),f 0=.pointer (some ⟨qg,qh,none⟩)∧f 2=.pointer (some ⟨w.heap.size,0,none⟩)∧f 3=.pointer (some ⟨MO.heap.size,0,none⟩)∧f 4=.int .i64 Zq∧0≤Zq∧dD w' MO.heap.size 44 #[.int .i64 z156.control.term.kind,.int .i64 z156.control.term.value,Dk,UD,Dl,YZ,UE]∧aA 2 encI 1 w' w.heap.size Dk z156.control.term.data∧aH 38 dI 4 w' w.heap.size UD z156.control.term.kids zG∧aA 2 encI 1 w' w.heap.size Dl z156.control.env∧aH 77 dZ 8 w' w.heap.size YZ z156.stack AX∧aH 73 fD 6 w' w.heap.size UE z156.heap zH∧Value.ownBlock Dk ≠ some w.heap.size∧Value.ownBlock Dk ≠ some MO.heap.size∧Ap zG (fb Dk)∧Ap zG [w.heap.size]∧Ap zG [MO.heap.size]∧Dj Dl Dk∧Ap (fb Dl) zG∧Value.ownBlock Dl ≠ some w.heap.size∧Value.ownBlock Dl ≠ some MO.heap.size∧Ap AX (fb Dk)∧Ap AX zG∧Ap AX (fb Dl)∧Ap AX [w.heap.size]∧Ap AX [MO.heap.size]∧Ap zH (fb Dk)∧Ap zH zG∧Ap zH (fb Dl)∧Ap zH AX∧Ap zH [w.heap.size]∧Ap zH [MO.heap.size]∧dD w' w.heap.size 44 #[.int .i64 0,.int .i64 0,.slice none 0 0,.slice none 0 0,.slice none 0 0,.slice none 0 0,.slice none 0 0]∧Below w.heap.size w w'∧jv d0 K1 g Zq z156=some r) 0 (fun f w'=>∃(z37:aN) (yF:Value) (Ob:Value) (yj:List Nat) (QL:Value) (anX:Value) (MW:List Nat) (anY:Value) (MX:List Nat),f 0=.pointer (some ⟨qg,qh,none⟩)∧f 2=.pointer (some ⟨w.heap.size,0,none⟩)∧f 3=.pointer (some ⟨MO.heap.size,0,none⟩)∧dD w' MO.heap.size 44 #[.int .i64 z37.control.term.kind,.int .i64 z37.control.term.value,yF,Ob,QL,anX,anY]∧aA 2 encI 1 w' w.heap.size yF z37.control.term.data∧aH 38 dI 4 w' w.heap.size Ob z37.control.term.kids yj∧aA 2 encI 1 w' w.heap.size QL z37.control.env∧aH 77 dZ 8 w' w.heap.size anX z37.stack MW∧aH 73 fD 6 w' w.heap.size anY z37.heap MX∧Value.ownBlock yF ≠ some w.heap.size∧Value.ownBlock yF ≠ some MO.heap.size∧Ap yj (fb yF)∧Ap yj [w.heap.size]∧Ap yj [MO.heap.size]∧Dj QL yF∧Ap (fb QL) yj∧Value.ownBlock QL ≠ some w.heap.size∧Value.ownBlock QL ≠ some MO.heap.size∧Ap MW (fb yF)∧Ap MW yj∧Ap MW (fb QL)∧Ap MW [w.heap.size]∧Ap MW [MO.heap.size]∧Ap MX (fb yF)∧Ap MX yj∧Ap MX (fb QL)∧Ap MX MW∧Ap MX [w.heap.size]∧Ap MX [MO.heap.size]∧dD w' w.heap.size 44 #[.int .i64 0,.int .i64 0,.slice none 0 0,.slice none 0 0,.slice none 0 0,.slice none 0 0,.slice none 0 0]∧Below w.heap.size w w'∧mO d0 z37=some r) (d0.stack.length+1) ⟨0,(⟨(⟨(⟨tK.term.kind,tK.term.value,tK.term.data,tK.term.kids⟩:ak),tK.env⟩:ay),[],[]⟩:aN),(.slice A24 tK.term.data.length c25),(.slice A26 tK.term.kids.length Vx),aSj,(.slice A28 tK.env.length c29),(.slice none 0 0),[],(.slice none 0 0),[],s0,rfl,rfl,rfl,(by omega),B35,kY,G16,Wu,aH.nil,aH.nil,(aJ (aP aqC)),(aJ (aP amH)),(Ap.symm aCX),aC1,amI,(Ap.dj (Ap.symm (Dj.ap aCY))),(Ap.symm aCZ),(aJ (aP ahX)),(aJ (aP amJ)),Ap.nil,Ap.nil,Ap.nil,Ap.nil,Ap.nil,Ap.nil,Ap.nil,Ap.nil,Ap.nil,Ap.nil,Ap.nil,B7,T,hm⟩ ?_ ?_
  ·rintro f w38 ⟨z37,yF,Ob,yj,QL,anX,MW,anY,MX,abg,Ho,Bg,Oc,uM,yt,aHx,aHy,aHz,aqD,anZ,DR,aqE,an0,ahY,ahZ,aqF,an1,ah0,ah1,ah2,aqG,an2,ah3,ah4,ah5,ah6,aqH,an3,B7,T,hm⟩;unfold mO at hm;refine dW (ah ?_);refine wp_seq<|wp_seq<|au rfl<|aW (.int .i64 0)<|RQ.nil<|ah<|wp_block ?_;obtain ⟨K2,hK2,hm⟩ :∃K,K=pz∧jr d0 K (d0.heap.length+1) 0 z37=some r:=⟨_,rfl,hm⟩;refine dG (fun g f w'=>∃(i54:Int) (z55:aN) (Ia:Value) (aaQ:Value) (Eb:List Nat) (Ib:Value) (aaR:Value) (Ec:List Nat) (aeu:Value) (E_:List Nat),f 0=.pointer (some ⟨qg,qh,none⟩)∧f 2=.pointer (some ⟨w.heap.size,0,none⟩)∧f 3=.pointer (some ⟨MO.heap.size,0,none⟩)∧f 6=.int .i64 i54∧0≤i54∧dD w' MO.heap.size 44 #[.int .i64 z55.control.term.kind,.int .i64 z55.control.term.value,Ia,aaQ,Ib,aaR,aeu]∧aA 2 encI 1 w' w.heap.size Ia z55.control.term.data∧aH 38 dI 4 w' w.heap.size aaQ z55.control.term.kids Eb∧aA 2 encI 1 w' w.heap.size Ib z55.control.env∧aH 77 dZ 8 w' w.heap.size aaR z55.stack Ec∧aH 73 fD 6 w' w.heap.size aeu z55.heap E_∧Value.ownBlock Ia ≠ some w.heap.size∧Value.ownBlock Ia ≠ some MO.heap.size∧Ap Eb (fb Ia)∧Ap Eb [w.heap.size]∧Ap Eb [MO.heap.size]∧Dj Ib Ia∧Ap (fb Ib) Eb∧Value.ownBlock Ib ≠ some w.heap.size∧Value.ownBlock Ib ≠ some MO.heap.size∧Ap Ec (fb Ia)∧Ap Ec Eb∧Ap Ec (fb Ib)∧Ap Ec [w.heap.size]∧Ap Ec [MO.heap.size]∧Ap E_ (fb Ia)∧Ap E_ Eb∧Ap E_ (fb Ib)∧Ap E_ Ec∧Ap E_ [w.heap.size]∧Ap E_ [MO.heap.size]∧dD w' w.heap.size 44 #[.int .i64 0,.int .i64 0,.slice none 0 0,.slice none 0 0,.slice none 0 0,.slice none 0 0,.slice none 0 0]∧Below w.heap.size w w'∧jr d0 K2 g i54 z55=some r) 2 (fun f w'=>∃(z39:aN) (yG:Value) (Oj:Value) (zI:List Nat) (QM:Value) (an4:Value) (Qd:List Nat) (an5:Value) (Qe:List Nat),f 2=.pointer (some ⟨w.heap.size,0,none⟩)∧f 3=.pointer (some ⟨MO.heap.size,0,none⟩)∧dD w' MO.heap.size 44 #[.int .i64 z39.control.term.kind,.int .i64 z39.control.term.value,yG,Oj,QM,an4,an5]∧aA 2 encI 1 w' w.heap.size yG z39.control.term.data∧aH 38 dI 4 w' w.heap.size Oj z39.control.term.kids zI∧aA 2 encI 1 w' w.heap.size QM z39.control.env∧aH 77 dZ 8 w' w.heap.size an4 z39.stack Qd∧aH 73 fD 6 w' w.heap.size an5 z39.heap Qe∧Value.ownBlock yG ≠ some w.heap.size∧Value.ownBlock yG ≠ some MO.heap.size∧Ap zI (fb yG)∧Ap zI [w.heap.size]∧Ap zI [MO.heap.size]∧Dj QM yG∧Ap (fb QM) zI∧Value.ownBlock QM ≠ some w.heap.size∧Value.ownBlock QM ≠ some MO.heap.size∧Ap Qd (fb yG)∧Ap Qd zI∧Ap Qd (fb QM)∧Ap Qd [w.heap.size]∧Ap Qd [MO.heap.size]∧Ap Qe (fb yG)∧Ap Qe zI∧Ap Qe (fb QM)∧Ap Qe Qd∧Ap Qe [w.heap.size]∧Ap Qe [MO.heap.size]∧dD w' w.heap.size 44 #[.int .i64 0,.int .i64 0,.slice none 0 0,.slice none 0 0,.slice none 0 0,.slice none 0 0,.slice none 0 0]∧Below w.heap.size w w'∧pz z39=some r) (d0.heap.length+1) ⟨0,z37,(yF),(Ob),yj,(QL),(anX),MW,(anY),MX,abg,Ho,Bg,rfl,(by omega),Oc,uM,yt,aHx,aHy,aHz,(aJ (aP aqD)),(aJ (aP anZ)),DR,aqE,an0,(Ap.dj (Dj.ap ahY)),ahZ,(aJ (aP aqF)),(aJ (aP an1)),ah0,ah1,ah2,aqG,an2,ah3,ah4,ah5,ah6,aqH,an3,B7,T,hm⟩ ?_ ?_
   ·rintro f w40 ⟨z39,yG,Oj,zI,QM,an4,Qd,an5,Qe,ah7,aC2,EK,nD,nV,abU,abV,abW,aqI,aHA,DT,aqJ,aHB,ah8,ah9,aqK,aHC,ah_,aia,aib,aqL,aHD,aic,aie,aif,aii,aqM,aHE,B7,T,hm⟩;unfold pz at hm;refine dW (ah ?_);refine wp_seq<|bF rfl<|Sm [.int .i64 z39.control.term.kind,.int .i64 z39.control.term.value,yG,Oj,QM,an4,an5] aC2 (Ul (cu (aj EK (i:=0) rfl)) (cu (aj EK (i:=1) rfl)) (cu (aj EK (i:=2) rfl)) (cu (aj EK (i:=3) rfl)) (cu (aj EK (i:=4) rfl)) (cu (aj EK (i:=5) rfl)) (cu (aj EK (i:=6) rfl))) ?_;obtain ⟨A41,MQ,rfl⟩:=aA.form nD;have aBF:=aA.bound nD;obtain ⟨A43,Uh,rfl⟩:=aH.form nV;have a9V:=aH.bound nV;obtain ⟨A45,c46,rfl⟩:=aA.form abU;have aSk:=aA.bound abU;obtain ⟨A47,c48,rfl⟩:=aH.form abV;have aSl:=aH.bound abV;obtain ⟨Ws,PX,rfl⟩:=aH.form abW;have aqg:=aH.bound abW;refine RL.store (v:=.agg #[.int .i64 z39.control.term.kind,.int .i64 z39.control.term.value,.slice A41 z39.control.term.data.length MQ,.slice A43 z39.control.term.kids.length Uh,.slice A45 z39.control.env.length c46,.slice A47 z39.stack.length c48,.slice Ws z39.heap.length PX]) (cs':=#[.int .i64 z39.control.term.kind,.int .i64 z39.control.term.value,.slice A41 z39.control.term.data.length MQ,.slice A43 z39.control.term.kids.length Uh,.slice A45 z39.control.env.length c46,.slice A47 z39.stack.length c48,.slice Ws z39.heap.length PX]) rfl ah7 rfl B7 (by kernel_rfl) (by rfl) (by rfl) (by rfl) (fun w51 B52 MR=>?_);have aJs:=MR.size;have EK:=EK.bK MR (by intro hin; simp at hin; exact YX.symm hin);have nD:=aA.only nD MR aqI;have nV:=aH.only aC nV MR (Ap.one aqJ);have abU:=aA.only abU MR aqK;have abV:=aH.only aQ abV MR (Ap.one aqL);have abW:=aH.only aS abW MR (Ap.one aqM);have T:=T.trans (MR.below (by first|(simp; done)|(simp; omega)));refine RL.nil<|ah<|wp_ret ?_;obtain rfl:=sj hm;exact (WJ (cs:=[.int .i64 z39.control.term.kind,.int .i64 z39.control.term.value,.slice A41 z39.control.term.data.length MQ,.slice A43 z39.control.term.kids.length Uh,.slice A45 z39.control.env.length c46,.slice A47 z39.stack.length c48,.slice Ws z39.heap.length PX]) rfl rfl ah7 (by kernel_rfl) (n_ B52) ⟨⟨_,_,_,_,_,_,_,_,rfl,nD,nV,abU,abV,abW,(Ap.symm DT),(Ap.dj (Ap.symm (Dj.ap ah8))),(Ap.symm ah9),(Ap.symm ah_),(Ap.symm aia),(Ap.symm aib),(Ap.symm aic),(Ap.symm aie),(Ap.symm aif),(Ap.symm aii)⟩,T⟩)
   rintro g f w56 ⟨i54,z55,Ia,aaQ,Eb,Ib,aaR,Ec,aeu,E_,PO,Zd,aaS,NR,aPV,UF,zJ,zK,zL,zM,yu,afr,UG,Xx,afs,UH,Xy,Xz,aft,UJ,XA,XB,XC,afu,UK,Ol,Om,Oo,Oq,XD,UL,B7,T,hm⟩;rcases g with _|g
   ·simp only [jr] at hm; cases hm
   obtain ⟨Jk,Gw,hm⟩ :∃z,z=jr d0 K2 g∧ug d0 z K2 i54 z55=some r:=⟨_,rfl,hm⟩;unfold ug at hm;refine wp_seq<|wp_seq<|au rfl<|aT NR<|aT PO<|Du rfl<|gy 6 rfl<|gZ (.slice A5 d0.heap.length c5) rfl (cu (cellT T (eu 6 _ rfl)))<|yH rfl<|iq (.bool (decide (i54 < (d0.heap.length:Int))))<|RQ.nil<|ah ?_;rcases aB (decide (i54 < (d0.heap.length:Int))) with c57|c57
   ·replace hm:=cF c57 hm;have a08:=of_decide_eq_false c57;refine iH c57<|wp_exit ?_;exact (bQ (bQ (iW ⟨_,rfl,⟨z55,(Ia),(aaQ),Eb,(Ib),(aaR),Ec,(aeu),E_,Zd,aaS,UF,zJ,zK,zL,zM,yu,(aJ (aP afr)),(aJ (aP UG)),Xx,afs,UH,(Ap.dj (Dj.ap Xy)),Xz,(aJ (aP aft)),(aJ (aP UJ)),XA,XB,XC,afu,UK,Ol,Om,Oo,Oq,XD,UL,B7,T,(by rw [hK2] at hm; exact hm)⟩⟩)))
   replace hm:=cT c57 hm;have a08:=of_decide_eq_true c57;refine ig c57<|wp_skip<|ah<|wp_seq<|wp_block ?_;refine Ux (fun w'=>dD w' MO.heap.size 44 #[.int .i64 z55.control.term.kind,.int .i64 z55.control.term.value,Ia,aaQ,Ib,aaR,aeu]) (fun w'=>Below w.heap.size w w') 22 (.q 0 (.e 1 (.q 2 (.q 3 (.q 4 (.q 5 (.q 6 (.q 7 (.q 8 (.q 9 (.q 10 (.q 11 (.q 12 (.q 13 (.q 14 (.q 15 (.q 16 (.a 17 (.q 18 (.a 19 (.a 20 (.q 21 (.a 22 .nil))))))))))))))))))))))) (by kernel_rfl) (by kernel_rfl) (fun w58 adT awl=>?_);have B7:=aX B7 adT;have UF:=aX UF adT;have zJ:=aA.below zJ adT;have zK:=aH.below aC zK adT;have zL:=aA.below zL adT;have zM:=aH.below aQ zM adT;have yu:=aH.below aS yu adT;have T:=Tt T adT;refine ⟨⟨UF,T⟩,?_⟩;refine RX.y rfl rfl (Y.fieldAddr (off:=6) aaS (by kernel_rfl))<|RX.e rfl rfl (Y.load (v:=aeu) rfl (by kernel_rfl) (fun w' hS=>(aj hS.1 (i:=6) rfl)))<|RX.y rfl rfl (Y.move (v:=.pointer (some ⟨qg,qh,none⟩)) PO)<|RX.y rfl rfl (Y.nilCheck rfl)<|RX.y rfl rfl (Y.fieldAddr (off:=6) rfl (by kernel_rfl))<|RX.y rfl rfl (Y.load (v:=.slice A5 d0.heap.length c5) rfl (by kernel_rfl) (fun w' hS=>(cellT hS (eu 6 _ rfl))))<|RX.y rfl rfl (Y.move (v:=.int .i64 i54) NR) ?_;obtain ⟨x60,atK,hm⟩:=bnd hm;obtain ⟨k61,aMe,aMf,atK⟩:=aU atK;obtain ⟨b67,o68,rfl,aSm⟩:=h5.addr (by omega);obtain ⟨a0x,ahN,aMg⟩:=h5.el atK;have aMh:=ahN;obtain ⟨A69,n69,c69,A70,n70,c70,A71,n71,c71,rfl,⟨h69,r69⟩,⟨h70,r70⟩,⟨h71,r71⟩⟩:=ahN;obtain ⟨rfl,q69⟩:=bI h69 r69;obtain ⟨rfl,q70⟩:=bI h70 r70;obtain ⟨rfl,q71⟩:=bI h71 r71;refine RX.y rfl rfl (Y.indexAddr (m:=k61) (sz:=6) rfl rfl aMe aMf (by kernel_rfl))<|RX.y rfl rfl (Y.fieldAddr (off:=0) rfl (by kernel_rfl))<|RX.y rfl rfl (Y.load (v:=.bool x60.done) rfl (by kernel_rfl) (fun w' hS=>(cellT hS (aMg 0 _ rfl))))<|RX.y rfl rfl (Y.move (v:=.pointer (some ⟨qg,qh,none⟩)) PO)<|RX.y rfl rfl (Y.nilCheck rfl)<|RX.y rfl rfl (Y.fieldAddr (off:=6) rfl (by kernel_rfl))<|RX.y rfl rfl (Y.load (v:=.slice (some ⟨b67,o68,none⟩) d0.heap.length c5) rfl (by kernel_rfl) (fun w' hS=>(cellT hS (eu 6 _ rfl))))<|RX.y rfl rfl (Y.move (v:=.int .i64 i54) NR) ?_;obtain ⟨x72,aMQ,hm⟩:=bnd hm;obtain ⟨k73,a09,a0_,aMQ⟩:=aU aMQ;obtain ⟨bbO,aC3,a1a⟩:=h5.el aMQ;have a1b:=aC3;obtain ⟨A79,n79,c79,A80,n80,c80,A81,n81,c81,rfl,⟨h79,r79⟩,⟨h80,r80⟩,⟨h81,r81⟩⟩:=aC3;obtain ⟨rfl,q79⟩:=bI h79 r79;obtain ⟨rfl,q80⟩:=bI h80 r80
   obtain ⟨rfl,q81⟩:=bI h81 r81;refine RX.y rfl rfl (Y.indexAddr (m:=k73) (sz:=6) rfl rfl a09 a0_ (by kernel_rfl))<|RX.y rfl rfl (Y.fieldAddr (off:=1) rfl (by kernel_rfl))<|RX.act rfl rfl ?_;obtain ⟨LJ,e83,hm⟩:=bnd hm;refine RL.call rfl (qZ rfl) (by kernel_rfl) ((CP x72.closure _ e83 _ _ (NG (R:=dM) qA aSm (pre:=[.bool x72.done]) (cs:=[.int .i64 x72.closure.term.kind,.int .i64 x72.closure.term.value,.slice A79 x72.closure.term.data.length c79,.slice A80 x72.closure.term.kids.length c80,.slice A81 x72.closure.env.length c81]) (post:=[]) ⟨_,_,_,_,_,_,_,_,_,rfl,⟨h79,r79⟩,⟨h80,r80⟩,⟨h81,r81⟩⟩ a1a T)).mono ?_);rintro _ w94 ⟨⟨v84,v87,aqN,v91,rfl,G85,G88,G92,aC4,aC5,aC6⟩,af0⟩;refine ⟨_,rfl,?_⟩;have aQZ:=af0.size;have aC7:=T.size;have aC8:=aJ (Ap.new (aA.dU G85) (aI B7.lt));have ayx:=aJ (Ap.new (aA.dU G85) (aI UF.lt));have aqO:=Ap.dj (Ap.new (aA.dU G85) (aA.je zJ));have aqP:Ap (fb v84) Eb:=(Ap.new (aA.dU G85) (aH.hi zK));have aqQ:=Ap.dj (Ap.new (aA.dU G85) (aA.je zL));have aqR:Ap (fb v84) Ec:=(Ap.new (aA.dU G85) (aH.hi zM));have aqS:Ap (fb v84) E_:=(Ap.new (aA.dU G85) (aH.hi yu));have aC9:Ap aqN [w.heap.size]:=(Ap.new (aH.jB G88) (aI B7.lt));have ayy:Ap aqN [MO.heap.size]:=(Ap.new (aH.jB G88) (aI UF.lt));have aqT:Ap aqN (fb Ia):=(Ap.new (aH.jB G88) (aA.je zJ));have aqU:Ap aqN Eb:=(Ap.new (aH.jB G88) (aH.hi zK));have aqV:Ap aqN (fb Ib):=(Ap.new (aH.jB G88) (aA.je zL));have aqW:Ap aqN Ec:=(Ap.new (aH.jB G88) (aH.hi zM));have aqX:Ap aqN E_:=(Ap.new (aH.jB G88) (aH.hi yu));have aC_:=aJ (Ap.new (aA.dU G92) (aI B7.lt));have ayz:=aJ (Ap.new (aA.dU G92) (aI UF.lt));have aqY:=Ap.dj (Ap.new (aA.dU G92) (aA.je zJ));have aqZ:Ap (fb v91) Eb:=(Ap.new (aA.dU G92) (aH.hi zK));have aq0:=Ap.dj (Ap.new (aA.dU G92) (aA.je zL));have aq1:Ap (fb v91) Ec:=(Ap.new (aA.dU G92) (aH.hi zM));have aq2:Ap (fb v91) E_:=(Ap.new (aA.dU G92) (aH.hi yu));have B7:=aX B7 af0;have UF:=aX UF af0;have zJ:=aA.below zJ af0;have zK:=aH.below aC zK af0;have zL:=aA.below zL af0;have zM:=aH.below aQ zM af0
   have yu:=aH.below aS yu af0;have T:=Tt T af0;replace G85:=aA.mono G85 aC7;replace G88:=aH.mono G88 aC7;replace G92:=aA.mono G92 aC7;refine RL.nil ⟨⟨UF,T⟩,?_⟩;obtain ⟨A96,c97,rfl⟩:=aA.form G85;have a9W:=aA.bound G85;obtain ⟨A98,c99,rfl⟩:=aH.form G88;have a9X:=aH.bound G88;obtain ⟨aHi,agf,rfl⟩:=aA.form G92;have a1c:=aA.bound G92;refine RX.y rfl rfl (Y.adL (cells:=#[.bool x60.done,.int .i64 LJ.term.kind,.int .i64 LJ.term.value,.slice A96 LJ.term.data.length c97,.slice A98 LJ.term.kids.length c99,.slice aHi LJ.env.length agf]) rfl rfl (by kernel_rfl) (by kernel_rfl))<|RX.act rfl rfl ?_;refine RL.yD (e:=73) (cells:=#[.bool x60.done,.int .i64 LJ.term.kind,.int .i64 LJ.term.value,.slice A96 LJ.term.data.length c97,.slice A98 LJ.term.kids.length c99,.slice aHi LJ.env.length agf]) rfl (pm1 rfl) (by kernel_rfl) (fun aQw a1d XE a1e=>?_);have aSn:w.heap.size≤w94.heap.size:=T.size;have a1f:=aA.yP G85 (dB);have aMR:=aH.both G88 (dB);have aMS:=aA.yP G92 (dB);have z109:=Ap.cons (Ap.ku (aI B7.lt)) (Ap.append (Ap.append (aP aC8) aC9) (aP aC_));have Bd:=Ap.cons (Ap.ku (aI UF.lt)) (Ap.append (Ap.append (aP ayx) ayy) (aP ayz));have ayA:=Ap.cons (Ap.ku (aA.je zJ)) (Ap.append (Ap.append (Dj.ap aqO) aqT) (Dj.ap aqY));have aHF:=Ap.cons (Ap.ku (aH.hi zK)) (Ap.append (Ap.append aqP aqU) aqZ);have aDa:=Ap.cons (Ap.ku (aA.je zL)) (Ap.append (Ap.append (Dj.ap aqQ) aqV) (Dj.ap aq0));have aMT:=Ap.cons (Ap.ku (aH.hi zM)) (Ap.append (Ap.append aqR aqW) aq1);have aMU:=Ap.cons (Ap.ku (aH.hi yu)) (Ap.append (Ap.append aqS aqX) aq2);have B7:=aX B7 XE;have UF:=aX UF XE;have zJ:=aA.below zJ XE;have zK:=aH.below aC zK XE;have zL:=aA.below zL XE;have zM:=aH.below aQ zM XE;have yu:=aH.below aS yu XE;have G85:=aA.below G85 XE;have G88:=aH.below aC G88 XE;have G92:=aA.below G92 XE;have T:=Tt T XE;obtain ⟨aSo,a116,aSp,aDb,aMV⟩:=aA.EN fI G85;obtain ⟨_,_,_,aSq,aMW,a1g,aSr,aDc,a1h⟩:=aH.Ua aC G88;injection aMW with e1 e2 e3; subst e1 e2 e3;obtain ⟨aSs,a1i,aSt,aJK,aHG⟩:=aA.EN fI G92;have a1j:aH 73 fD 6 aQw w.heap.size (.slice (some ⟨w94.heap.size,0,none⟩) 1 1) [(⟨x60.done,(⟨(⟨LJ.term.kind,LJ.term.value,LJ.term.data,LJ.term.kids⟩:ak),LJ.env⟩:ay)⟩:bD)] (w94.heap.size :: (((fb (.slice A96 LJ.term.data.length c97)) ++ aqN) ++ (fb (.slice aHi LJ.env.length agf)))):=aH.agZ (b1:=((aSo ++ aSq) ++ aSs)) a1d aSn ⟨_,_,_,_,_,_,_,_,_,aSo,aSq,aSs,rfl,⟨a116,aMV⟩,⟨a1g,a1h⟩,⟨a1i,aHG⟩,rfl⟩ aS (ql (ql aSp aSr aDb aDc aC4) aSt (yO aDb aDc) aJK (Ap.append (Dj.ap aC5) aC6)) (yO (yO aDb aDc) aJK) (all2 (all2 a1f aMR) aMS)
   refine RL.nil ⟨⟨UF,T⟩,?_⟩;refine RX.act rfl rfl ?_;obtain ⟨_,a1k,hm⟩:=bnd hm;have awT:=h_ a1k;refine RL.GX aS Gu (by decide) Az rfl rfl rfl yu a1j (Ap.symm aMU) T.size awT (fun bbP a1l aSu aDd aev aDe aew=>?_);have aMX:=aDe.size;have z143:=Ap.app aew XD z109 (aI B7.lt);have aSv:=Ap.app aew UL Bd (aI UF.lt);have z145:=Ap.app aew Ol ayA (aA.je zJ);have z146:=Ap.app aew Om aHF (aH.hi zK);have aSw:=Ap.app aew Oo aDa (aA.je zL);have z148:=Ap.app aew Oq aMT (aH.hi zM);have B7:=dD.kept B7 aev (aH.ML yu XD);have UF:=dD.kept UF aev (aH.ML yu UL);have zJ:=aA.Aa zJ aev (aH.dj yu Ol);have zK:=aH.grown aC zK aev (aH.P5 yu Om);have zL:=aA.Aa zL aev (aH.dj yu Oo);have zM:=aH.grown aQ zM aev (aH.P5 yu Oq);have T:=T.trans aDe;refine RL.nil ⟨⟨UF,T⟩,?_⟩;refine RX.y rfl rfl (Y.fieldAddr (off:=6) aaS (by kernel_rfl))<|RX.anM rfl rfl ?_;obtain ⟨aMY,ahU,rfl⟩:=aH.form aDd;have a1m:=aH.bound aDd;refine RL.store (v:=.slice aMY ((z55.heap ++ [(⟨x60.done,(⟨(⟨LJ.term.kind,LJ.term.value,LJ.term.data,LJ.term.kids⟩:ak),LJ.env⟩:ay)⟩:bD)]).length) ahU) (cs':=#[.int .i64 z55.control.term.kind,.int .i64 z55.control.term.value,Ia,aaQ,Ib,aaR,.slice aMY ((z55.heap ++ [(⟨x60.done,(⟨(⟨LJ.term.kind,LJ.term.value,LJ.term.data,LJ.term.kids⟩:ak),LJ.env⟩:ay)⟩:bD)]).length) ahU]) rfl rfl rfl UF (by kernel_rfl) (by rfl) (by rfl) (by rfl) (fun aBf a1n afv=>?_);have ati:=afv.size;have B7:=B7.bK afv (by intro hin; simp at hin; exact YX hin);have zJ:=aA.only zJ afv UG;have zK:=aH.only aC zK afv (Ap.one UH);have zL:=aA.only zL afv UJ;have zM:=aH.only aQ zM afv (Ap.one UK);have aDd:=aH.only aS aDd afv (Ap.one aSv);have T:=T.trans (afv.below (by first|(simp; done)|(simp; omega)));refine RL.nil ⟨T,?_⟩;refine RX.nil_ ?_;refine eF (ah ?_);refine au rfl<|aT NR<|RQ.y rfl (Y.dS rfl rfl (bn (m:=i54) (by omega)))<|aW (.int .i64 (i54+1))<|RQ.nil ?_;exact (ah ⟨g,_,Nat.lt_succ_self _,rfl,⟨(i54+1),(⟨(⟨(⟨z55.control.term.kind,z55.control.term.value,z55.control.term.data,z55.control.term.kids⟩:ak),z55.control.env⟩:ay),z55.stack,(z55.heap ++ [(⟨x60.done,(⟨(⟨LJ.term.kind,LJ.term.value,LJ.term.data,LJ.term.kids⟩:ak),LJ.env⟩:ay)⟩:bD)])⟩:aN),(Ia),(aaQ),Eb,(Ib),(aaR),Ec,(.slice aMY ((z55.heap ++ [(⟨x60.done,(⟨(⟨LJ.term.kind,LJ.term.value,LJ.term.data,LJ.term.kids⟩:ak),LJ.env⟩:ay)⟩:bD)]).length) ahU),aSu,PO,Zd,aaS,rfl,(by omega),a1n,zJ,zK,zL,zM,aDd,(aJ (aP afr)),(aJ (aP UG)),Xx,afs,UH,(Ap.dj (Dj.ap Xy)),Xz,(aJ (aP aft)),(aJ (aP UJ)),XA,XB,XC,afu,UK,z145,z146,aSw,z148,z143,aSv,B7,T,(by rw [← Gw]; exact hm)⟩⟩)
  rintro g f bbQ ⟨Zq,z156,Dk,UD,zG,Dl,YZ,AX,UE,zH,dQ,yT,jE,Dt,apU,DU,pF,pG,pI,oz,pJ,abX,QN,Tc,abY,QO,Td,Tf,abZ,QS,Jt,Ju,Jv,UM,QT,Ti,Tj,Tm,Jw,ab1,QU,B7,T,hm⟩;rcases g with _|g
  ·simp only [jv] at hm; cases hm
  obtain ⟨eU,d_,hm⟩ :∃z,z=jv d0 K1 g∧uh d0 z K1 Zq z156=some r:=⟨_,rfl,hm⟩;unfold uh at hm;refine wp_seq<|wp_seq<|au rfl<|aT Dt<|aT dQ<|Du rfl<|gy 5 rfl<|gZ (.slice A4 d0.stack.length c4) rfl (cu (cellT T (eu 5 _ rfl)))<|yH rfl<|iq (.bool (decide (Zq < (d0.stack.length:Int))))<|RQ.nil<|ah ?_;rcases aB (decide (Zq < (d0.stack.length:Int))) with LY|LY
  ·replace hm:=cF LY hm;have pc158:=of_decide_eq_false LY;refine iH LY<|wp_exit ?_;exact (bQ (bQ (iW ⟨_,rfl,⟨z156,(Dk),(UD),zG,(Dl),(YZ),AX,(UE),zH,dQ,yT,jE,DU,pF,pG,pI,oz,pJ,(aJ (aP abX)),(aJ (aP QN)),Tc,abY,QO,(Ap.dj (Dj.ap Td)),Tf,(aJ (aP abZ)),(aJ (aP QS)),Jt,Ju,Jv,UM,QT,Ti,Tj,Tm,Jw,ab1,QU,B7,T,(by rw [hK1] at hm; exact hm)⟩⟩)))
  replace hm:=cT LY hm;have pc158:=of_decide_eq_true LY;refine ig LY<|wp_skip<|ah<|wp_seq<|wp_block<|wp_seq<|au rfl<|aT dQ<|Du rfl<|gy 5 rfl<|gZ (.slice A4 d0.stack.length c4) rfl (cu (cellT T (eu 5 _ rfl)))<|aT Dt ?_;obtain ⟨x159,aDf,hm⟩:=bnd hm;obtain ⟨ayB,aSx,aSy,aDf⟩:=aU aDf;obtain ⟨aDg,aDh,rfl,aMZ⟩:=h4.addr (by omega);obtain ⟨a9Y,awU,awV⟩:=h4.el aDf;have aWJ:=awU;obtain ⟨aM0,n168,c168,a1o,n169,ab2,a1p,n170,ahk,atZ,n171,c171,rfl,⟨aSz,aSA⟩,⟨aSB,aSC⟩,⟨aSD,aSE⟩,⟨aDi,aDj⟩⟩:=awU;obtain ⟨rfl,bbR⟩:=bI aSz aSA;obtain ⟨rfl,bbS⟩:=bI aSB aSC;obtain ⟨rfl,bbT⟩:=bI aSD aSE;obtain ⟨rfl,a1q⟩:=bI aDi aDj;refine RQ.y rfl (Y.indexAddr (m:=ayB) (sz:=8) rfl rfl aSx aSy (by kernel_rfl))<|aW (.pointer (some ⟨aDg,aDh+ayB * 8,none⟩))<|RQ.nil<|ah ?_;refine Ux (fun w'=>dD w' MO.heap.size 44 #[.int .i64 z156.control.term.kind,.int .i64 z156.control.term.value,Dk,UD,Dl,YZ,UE]) (fun w'=>Below w.heap.size w w') 23 (.q 0 (.e 1 (.q 2 (.q 3 (.q 4 (.q 5 (.q 6 (.q 7 (.q 8 (.q 9 (.q 10 (.q 11 (.q 12 (.q 13 (.q 15 (.q 16 (.q 17 (.a 14 (.a 18 (.q 19 (.a 20 (.a 21 (.q 22 (.a 23 .nil)))))))))))))))))))))))) (by kernel_rfl) (by kernel_rfl) (fun bbU afw a1r=>?_);have B7:=aX B7 afw;have DU:=aX DU afw;have pF:=aA.below pF afw;have pG:=aH.below aC pG afw;have pI:=aA.below pI afw;have oz:=aH.below aQ oz afw;have pJ:=aH.below aS pJ afw;have T:=Tt T afw;refine ⟨⟨DU,T⟩,?_⟩;refine RX.y rfl rfl (Y.fieldAddr (off:=5) jE (by kernel_rfl))<|RX.e rfl rfl (Y.load (v:=YZ) rfl (by kernel_rfl) (fun w' hS=>(aj hS.1 (i:=5) rfl)))<|RX.y rfl rfl (Y.move (v:=.pointer (some ⟨aDg,aDh+ayB * 8,none⟩)) rfl)<|RX.y rfl rfl (Y.nilCheck rfl)<|RX.y rfl rfl (Y.fieldAddr (off:=0) rfl (by kernel_rfl))<|RX.y rfl rfl (Y.load (v:=.int .i64 x159.kind) rfl (by kernel_rfl) (fun w' hS=>(cellT hS (awV 0 _ rfl))))<|RX.y rfl rfl (Y.move (v:=.pointer (some ⟨aDg,aDh+ayB * 8,none⟩)) rfl)<|RX.y rfl rfl (Y.nilCheck rfl)<|RX.y rfl rfl (Y.fieldAddr (off:=1) rfl (by kernel_rfl))<|RX.y rfl rfl (Y.load (v:=.int .i64 x159.value) rfl (by kernel_rfl) (fun w' hS=>(cellT hS (awV 1 _ rfl))))<|RX.y rfl rfl (Y.move (v:=.pointer (some ⟨aDg,aDh+ayB * 8,none⟩)) rfl)<|RX.y rfl rfl (Y.nilCheck rfl)<|RX.y rfl rfl (Y.fieldAddr (off:=2) rfl (by kernel_rfl))<|RX.y rfl rfl (Y.load (v:=.slice aM0 x159.data.length c168) rfl (by kernel_rfl) (fun w' hS=>(cellT hS (awV 2 _ rfl))))<|RX.y rfl rfl (Y.move (v:=.pointer (some ⟨aDg,aDh+ayB * 8,none⟩)) rfl)<|RX.y rfl rfl (Y.nilCheck rfl)<|RX.y rfl rfl (Y.fieldAddr (off:=3) rfl (by kernel_rfl))<|RX.act rfl rfl ?_
  obtain ⟨ahW,a1s,hm⟩:=bnd hm;refine RL.call rfl (qZ rfl) (by kernel_rfl) ((BX x159.data _ a1s _ _ (eY aG aSz aSA T)).mono ?_);rintro _ a1t ⟨⟨aHH,rfl,Tn⟩,ab3⟩;refine ⟨_,rfl,?_⟩;have aM1:=ab3.size;have aM2:=T.size;have ayC:=aJ (Ap.new (aA.dU Tn) (aI B7.lt));have at1:=aJ (Ap.new (aA.dU Tn) (aI DU.lt));have akj:=Ap.dj (Ap.new (aA.dU Tn) (aA.je pF));have akk:Ap (fb aHH) zG:=(Ap.new (aA.dU Tn) (aH.hi pG));have akl:=Ap.dj (Ap.new (aA.dU Tn) (aA.je pI));have akm:Ap (fb aHH) AX:=(Ap.new (aA.dU Tn) (aH.hi oz));have akn:Ap (fb aHH) zH:=(Ap.new (aA.dU Tn) (aH.hi pJ));have B7:=aX B7 ab3;have DU:=aX DU ab3;have pF:=aA.below pF ab3;have pG:=aH.below aC pG ab3;have pI:=aA.below pI ab3;have oz:=aH.below aQ oz ab3;have pJ:=aH.below aS pJ ab3;have T:=Tt T ab3;replace Tn:=aA.mono Tn aM2;refine RL.nil ⟨⟨DU,T⟩,?_⟩;refine RX.act rfl rfl ?_;obtain ⟨wE,a1u,hm⟩:=bnd hm;refine RL.call rfl (qZ rfl) (by kernel_rfl) ((CP x159.closure _ a1u _ _ (NG (R:=dM) qA aMZ (pre:=[.int .i64 x159.kind,.int .i64 x159.value,.slice aM0 x159.data.length c168]) (cs:=[.int .i64 x159.closure.term.kind,.int .i64 x159.closure.term.value,.slice a1o x159.closure.term.data.length ab2,.slice a1p x159.closure.term.kids.length ahk,.slice atZ x159.closure.env.length c171]) (post:=[]) ⟨_,_,_,_,_,_,_,_,_,rfl,⟨aSB,aSC⟩,⟨aSD,aSE⟩,⟨aDi,aDj⟩⟩ awV T)).mono ?_);rintro _ ayD ⟨⟨v183,aDk,ab4,aM3,rfl,Zt,BG,Zu,at6,at7,aua⟩,ZL⟩;refine ⟨_,rfl,?_⟩;have aM4:=ZL.size;have aub:=T.size;have ayE:=aJ (Ap.new (aA.dU Zt) (aI B7.lt));have auc:=aJ (Ap.new (aA.dU Zt) (aI DU.lt));have ako:=Ap.dj (Ap.new (aA.dU Zt) (aA.je pF));have akp:Ap (fb v183) zG:=(Ap.new (aA.dU Zt) (aH.hi pG));have akq:=Ap.dj (Ap.new (aA.dU Zt) (aA.je pI));have akr:Ap (fb v183) AX:=(Ap.new (aA.dU Zt) (aH.hi oz));have aks:Ap (fb v183) zH:=(Ap.new (aA.dU Zt) (aH.hi pJ));have aud:=Ap.dj (Ap.new (aA.dU Zt) (aA.je Tn));have aex:Ap ab4 [w.heap.size]:=(Ap.new (aH.jB BG) (aI B7.lt))
  have aue:Ap ab4 [MO.heap.size]:=(Ap.new (aH.jB BG) (aI DU.lt));have akt:Ap ab4 (fb Dk):=(Ap.new (aH.jB BG) (aA.je pF));have aku:Ap ab4 zG:=(Ap.new (aH.jB BG) (aH.hi pG));have akv:Ap ab4 (fb Dl):=(Ap.new (aH.jB BG) (aA.je pI));have akw:Ap ab4 AX:=(Ap.new (aH.jB BG) (aH.hi oz));have akx:Ap ab4 zH:=(Ap.new (aH.jB BG) (aH.hi pJ));have auf:Ap ab4 (fb aHH):=(Ap.new (aH.jB BG) (aA.je Tn));have ayF:=aJ (Ap.new (aA.dU Zu) (aI B7.lt));have aug:=aJ (Ap.new (aA.dU Zu) (aI DU.lt));have aky:=Ap.dj (Ap.new (aA.dU Zu) (aA.je pF));have akz:Ap (fb aM3) zG:=(Ap.new (aA.dU Zu) (aH.hi pG));have akA:=Ap.dj (Ap.new (aA.dU Zu) (aA.je pI));have akB:Ap (fb aM3) AX:=(Ap.new (aA.dU Zu) (aH.hi oz));have akC:Ap (fb aM3) zH:=(Ap.new (aA.dU Zu) (aH.hi pJ));have auh:=Ap.dj (Ap.new (aA.dU Zu) (aA.je Tn));have B7:=aX B7 ZL;have DU:=aX DU ZL;have pF:=aA.below pF ZL;have pG:=aH.below aC pG ZL;have pI:=aA.below pI ZL;have oz:=aH.below aQ oz ZL;have pJ:=aH.below aS pJ ZL;have Tn:=aA.below Tn ZL;have T:=Tt T ZL;replace Zt:=aA.mono Zt aub;replace BG:=aH.mono BG aub;replace Zu:=aA.mono Zu aub;refine RL.nil ⟨⟨DU,T⟩,?_⟩;obtain ⟨aui,c196,rfl⟩:=aA.form Tn;have aM5:=aA.bound Tn;obtain ⟨aM6,c198,rfl⟩:=aA.form Zt;have a1v:=aA.bound Zt;obtain ⟨aSF,aSG,rfl⟩:=aH.form BG;have a1w:=aH.bound BG;obtain ⟨aM7,aM8,rfl⟩:=aA.form Zu;have a1x:=aA.bound Zu;refine RX.y rfl rfl (Y.aCm (cells:=#[.int .i64 x159.kind,.int .i64 x159.value,.slice aui ahW.length c196,.int .i64 wE.term.kind,.int .i64 wE.term.value,.slice aM6 wE.term.data.length c198,.slice aSF wE.term.kids.length aSG,.slice aM7 wE.env.length aM8]) rfl rfl rfl rfl (by kernel_rfl) (by kernel_rfl))<|RX.act rfl rfl ?_;refine RL.yD (e:=77) (cells:=#[.int .i64 x159.kind,.int .i64 x159.value,.slice aui ahW.length c196,.int .i64 wE.term.kind,.int .i64 wE.term.value,.slice aM6 wE.term.data.length c198,.slice aSF wE.term.kids.length aSG,.slice aM7 wE.env.length aM8]) rfl (pm1 rfl) (by kernel_rfl) (fun aDl a1y VF aM9=>?_)
  have aSH:w.heap.size≤ayD.heap.size:=T.size;have a1z:=aA.yP Tn (dB);have a1A:=aA.yP Zt (dB);have a1B:=aH.both BG (dB);have a1C:=aA.yP Zu (dB);have a1D:=Ap.cons (Ap.ku (aI B7.lt)) (Ap.append (Ap.append (Ap.append (aP ayC) (aP ayE)) aex) (aP ayF));have z212:=Ap.cons (Ap.ku (aI DU.lt)) (Ap.append (Ap.append (Ap.append (aP at1) (aP auc)) aue) (aP aug));have z213:=Ap.cons (Ap.ku (aA.je pF)) (Ap.append (Ap.append (Ap.append (Dj.ap akj) (Dj.ap ako)) akt) (Dj.ap aky));have a1E:=Ap.cons (Ap.ku (aH.hi pG)) (Ap.append (Ap.append (Ap.append akk akp) aku) akz);have a1F:=Ap.cons (Ap.ku (aA.je pI)) (Ap.append (Ap.append (Ap.append (Dj.ap akl) (Dj.ap akq)) akv) (Dj.ap akA));have aMN:=Ap.cons (Ap.ku (aH.hi oz)) (Ap.append (Ap.append (Ap.append akm akr) akw) akB);have ayt:=Ap.cons (Ap.ku (aH.hi pJ)) (Ap.append (Ap.append (Ap.append akn aks) akx) akC);have B7:=aX B7 VF;have DU:=aX DU VF;have pF:=aA.below pF VF;have pG:=aH.below aC pG VF;have pI:=aA.below pI VF;have oz:=aH.below aQ oz VF;have pJ:=aH.below aS pJ VF;have Tn:=aA.below Tn VF;have Zt:=aA.below Zt VF;have BG:=aH.below aC BG VF;have Zu:=aA.below Zu VF;have T:=Tt T VF;obtain ⟨aSI,a218,aSJ,awW,a1G⟩:=aA.EN fI Tn;obtain ⟨aSK,a1H,aSL,awX,a1I⟩:=aA.EN fI Zt;obtain ⟨_,_,_,aSM,aM_,a228,aSN,aDm,a1J⟩:=aH.Ua aC BG;injection aM_ with e1 e2 e3; subst e1 e2 e3;obtain ⟨aSO,a233,aSP,aJL,aNa⟩:=aA.EN fI Zu;have a1K:aH 77 dZ 8 aDl w.heap.size (.slice (some ⟨ayD.heap.size,0,none⟩) 1 1) [(⟨x159.kind,x159.value,ahW,(⟨(⟨wE.term.kind,wE.term.value,wE.term.data,wE.term.kids⟩:ak),wE.env⟩:ay)⟩:aO)] (ayD.heap.size :: ((((fb (.slice aui ahW.length c196)) ++ (fb (.slice aM6 wE.term.data.length c198))) ++ ab4) ++ (fb (.slice aM7 wE.env.length aM8)))):=aH.agZ (b1:=(((aSI ++ aSK) ++ aSM) ++ aSO)) a1y aSH ⟨_,_,_,_,_,_,_,_,_,_,_,_,aSI,aSK,aSM,aSO,rfl,⟨a218,a1G⟩,⟨a1H,a1I⟩,⟨a228,a1J⟩,⟨a233,aNa⟩,rfl⟩ aQ (ql (ql (ql aSJ aSL awW awX (Ap.symm (Dj.ap aud))) aSN (yO awW awX) aDm (Ap.append (Ap.symm auf) at6)) aSP (yO (yO awW awX) aDm) aJL (Ap.append (Ap.append (Ap.symm (Dj.ap auh)) (Dj.ap at7)) aua)) (yO (yO (yO awW awX) aDm) aJL) (all2 (all2 (all2 a1z a1A) a1B) a1C)
  refine RL.nil ⟨⟨DU,T⟩,?_⟩;refine RX.act rfl rfl ?_;obtain ⟨_,a1L,hm⟩:=bnd hm;have aSQ:=h_ a1L;refine RL.GX aQ WO (by decide) NT rfl rfl rfl oz a1K (Ap.symm aMN) T.size aSQ (fun bbV bbW aSR aDn aey aDo aez=>?_);have a1M:=aDo.size;have a1N:=Ap.app aez UM a1D (aI B7.lt);have aSS:=Ap.app aez QT z212 (aI DU.lt);have a1O:=Ap.app aez Jt z213 (aA.je pF);have a1P:=Ap.app aez Ju a1E (aH.hi pG);have a1Q:=Ap.app aez Jv a1F (aA.je pI);have a1R:=Ap.app aez (Ap.symm Jw) ayt (aH.hi pJ);have B7:=dD.kept B7 aey (aH.ML oz UM);have DU:=dD.kept DU aey (aH.ML oz QT);have pF:=aA.Aa pF aey (aH.dj oz Jt);have pG:=aH.grown aC pG aey (aH.P5 oz Ju);have pI:=aA.Aa pI aey (aH.dj oz Jv);have pJ:=aH.grown aS pJ aey (aH.P5 oz (Ap.symm Jw));have T:=T.trans aDo;refine RL.nil ⟨⟨DU,T⟩,?_⟩;refine RX.y rfl rfl (Y.fieldAddr (off:=5) jE (by kernel_rfl))<|RX.anM rfl rfl ?_;obtain ⟨aNb,aNc,rfl⟩:=aH.form aDn;have a1S:=aH.bound aDn;refine RL.store (v:=.slice aNb ((z156.stack ++ [(⟨x159.kind,x159.value,ahW,(⟨(⟨wE.term.kind,wE.term.value,wE.term.data,wE.term.kids⟩:ak),wE.env⟩:ay)⟩:aO)]).length) aNc) (cs':=#[.int .i64 z156.control.term.kind,.int .i64 z156.control.term.value,Dk,UD,Dl,.slice aNb ((z156.stack ++ [(⟨x159.kind,x159.value,ahW,(⟨(⟨wE.term.kind,wE.term.value,wE.term.data,wE.term.kids⟩:ak),wE.env⟩:ay)⟩:aO)]).length) aNc,UE]) rfl rfl rfl DU (by kernel_rfl) (by rfl) (by rfl) (by rfl) (fun bbX a1T afx=>?_);have a1U:=afx.size;have B7:=B7.bK afx (by intro hin; simp at hin; exact YX hin);have pF:=aA.only pF afx QN;have pG:=aH.only aC pG afx (Ap.one QO);have pI:=aA.only pI afx QS;have pJ:=aH.only aS pJ afx (Ap.one QU);have aDn:=aH.only aQ aDn afx (Ap.one aSS);have T:=T.trans (afx.below (by first|(simp; done)|(simp; omega)));refine RL.nil ⟨T,?_⟩;refine RX.nil_ ?_;refine eF (ah ?_);refine au rfl<|aT Dt<|RQ.y rfl (Y.dS rfl rfl (bn (m:=Zq) (by omega)))<|aW (.int .i64 (Zq+1))<|RQ.nil ?_
  exact (ah ⟨g,_,Nat.lt_succ_self _,rfl,⟨(Zq+1),(⟨(⟨(⟨z156.control.term.kind,z156.control.term.value,z156.control.term.data,z156.control.term.kids⟩:ak),z156.control.env⟩:ay),(z156.stack ++ [(⟨x159.kind,x159.value,ahW,(⟨(⟨wE.term.kind,wE.term.value,wE.term.data,wE.term.kids⟩:ak),wE.env⟩:ay)⟩:aO)]),z156.heap⟩:aN),(Dk),(UD),zG,(Dl),(.slice aNb ((z156.stack ++ [(⟨x159.kind,x159.value,ahW,(⟨(⟨wE.term.kind,wE.term.value,wE.term.data,wE.term.kids⟩:ak),wE.env⟩:ay)⟩:aO)]).length) aNc),aSR,(UE),zH,dQ,yT,jE,rfl,(by omega),a1T,pF,pG,pI,aDn,pJ,(aJ (aP abX)),(aJ (aP QN)),Tc,abY,QO,(Ap.dj (Dj.ap Td)),Tf,(aJ (aP abZ)),(aJ (aP QS)),a1O,a1P,a1Q,a1N,aSS,Ti,Tj,Tm,(Ap.symm a1R),ab1,QU,B7,T,(by rw [← d_]; exact hm)⟩⟩)
noncomputable def nY (xs7:List Int):Option (List Int):=
  some xs7
noncomputable def rU (d0:List Int) (d1:List Int) (eU:List Int→Int→Option (List Int)) (K1:List Int→Option (List Int)) (xs9:List Int) (ZG:Int):Option (List Int):=
  (bif (decide (ZG < (d0.length:Int))) then ((fC d0 ZG).bind fun x13=>((fC d1 x13).bind fun x22=>((yB (xs9.length+([x22]).length≤4294967296)).bind fun _=>(eU (xs9 ++ [x22]) (ZG+1))))) else (K1 xs9))
noncomputable def iP (d0:List Int) (d1:List Int) (K1:List Int→Option (List Int)):Nat→List Int→Int→Option (List Int)
  |0,_,_=>none
  |g+1,xs9,ZG=>rU d0 d1 (iP d0 d1 K1 g) K1 xs9 ZG
noncomputable def kT (d0:List Int) (d1:List Int):Option (List Int):=
  (iP d0 d1 nY (d0.length+1) ([] : List Int) 0)
set_option maxHeartbeats 2000000 in
theorem pK (d0:List Int) (d1:List Int) (r:List Int) (hm:kT d0 d1=some r) (v0:Value) (v1:Value) (w:World) (hv0:Sl nR 1 w v0 d0) (hv1:Sl nR 1 w v1 d1) :
    Calls Tryz.prog 52 #[v0,v1] w fun e w'=>(∃(v0:Value),e=.returned (v0)∧aA 2 encI 1 w' w.heap.size v0 r)∧Below w.heap.size w w':=by
  obtain ⟨Bc,na0,ca0,rfl,ha0,GN⟩:=hv0;obtain ⟨rfl,qa0⟩:=bI ha0 GN;obtain ⟨Aa1,na1,ca1,rfl,ha1,ra1⟩:=hv1;obtain ⟨rfl,qa1⟩:=bI ha1 ra1;have T:=Below.refl w.heap.size w;unfold kT at hm;refine enter 25 Tryz.func52 rfl rfl rfl ?_;intro f hf;have s0:f 0=.slice Bc d0.length ca0:=hf 0 _ rfl;have s1:f 1=.slice Aa1 d1.length ca1:=hf 1 _ rfl;refine wp_seq<|au rfl<|aW (.slice none 0 0)<|RQ.nil<|ah<|wp_seq<|bF rfl ?_;refine RL.yD (e:=2) (cells:=#[]) rfl pm0 (by kernel_rfl) (fun w1 B2 hb3 aYd=>?_);have ZB2:w.heap.size≤w.heap.size:=T.size;have T:=Tt T hb3;have G5:=aA.lit (enc:=encI) (sz:=1) (xs:=([] : List Int)) B2 ZB2 rfl rfl rfl rfl;refine Ez (.slice (some ⟨w.heap.size,0,none⟩) 0 0)<|RL.nil<|ah<|wp_seq<|wp_seq<|au rfl<|aW (.int .i64 0)<|RQ.nil<|ah<|wp_block ?_;obtain ⟨K1,hK1,hm⟩ :∃K,K=nY∧iP d0 d1 K (d0.length+1) ([] : List Int) 0=some r:=⟨_,rfl,hm⟩;refine dG (fun g f w'=>∃(xs9:List Int) (ZG:Int) (aHI:Value),f 0=.slice Bc d0.length ca0∧f 1=.slice Aa1 d1.length ca1∧f 5=aHI∧aA 2 encI 1 w' w.heap.size aHI xs9∧f 6=.int .i64 ZG∧0≤ZG∧Below w.heap.size w w'∧iP d0 d1 K1 g xs9 ZG=some r) 0 (fun f w'=>∃(xs7:List Int) (aHJ:Value),f 5=aHJ∧aA 2 encI 1 w' w.heap.size aHJ xs7∧Below w.heap.size w w'∧nY xs7=some r) (d0.length+1) ⟨([] : List Int),0,(.slice (some ⟨w.heap.size,0,none⟩) 0 0),s0,s1,rfl,G5,rfl,(by omega),T,hm⟩ ?_ ?_
  ·rintro f w8 ⟨xs7,aHJ,aAL,aST,T,hm⟩;unfold nY at hm;refine dW (ah ?_);refine wp_seq<|au rfl<|aT aAL<|aW aHJ<|RQ.nil<|ah<|wp_ret ?_;obtain rfl:=sj hm;exact (aV rfl rfl rfl ⟨⟨_,rfl,aST⟩,T⟩)
  rintro g f uS ⟨xs9,ZG,aHI,dQ,iF,jD,aq3,I8,aP9,T,hm⟩;rcases g with _|g
  ·simp only [iP] at hm; cases hm
  obtain ⟨eU,d_,hm⟩ :∃z,z=iP d0 d1 K1 g∧rU d0 d1 z K1 xs9 ZG=some r:=⟨_,rfl,hm⟩;unfold rU at hm;refine wp_seq<|wp_seq<|au rfl<|aT I8<|aT dQ<|yH rfl<|iq (.bool (decide (ZG < (d0.length:Int))))<|RQ.nil<|ah ?_;rcases aB (decide (ZG < (d0.length:Int))) with c12|c12
  ·replace hm:=cF c12 hm;have ahf:=of_decide_eq_false c12;refine iH c12<|wp_exit ?_;exact (bQ (bQ (iW ⟨_,rfl,⟨xs9,(aHI),jD,aq3,T,(by rw [hK1] at hm; exact hm)⟩⟩)))
  replace hm:=cT c12 hm;have ahf:=of_decide_eq_true c12;refine ig c12<|wp_skip<|ah<|wp_seq<|wp_block<|bF rfl<|kE jD<|kE iF<|kE dQ<|kE I8 ?_;obtain ⟨x13,hx16,hm⟩:=bnd hm;obtain ⟨k14,a1V,a1W,hx16⟩:=aU hx16;obtain ⟨b20,o21,rfl,a9Z⟩:=ha0.addr (by omega);obtain ⟨bbY,aDp,hc19⟩:=ha0.el hx16;have a1X:=aDp;obtain rfl:=aDp;refine RL.y rfl (Y.indexAddr (m:=k14) (sz:=1) rfl rfl a1V a1W (by kernel_rfl))<|I7 (.int .i64 x13) rfl (cu (cellT T (hc19 0 _ rfl))) ?_;obtain ⟨x22,hx25,hm⟩:=bnd hm;obtain ⟨k23,aL7,aL8,hx25⟩:=aU hx25;obtain ⟨b29,o30,rfl,a90⟩:=ha1.addr (by omega);obtain ⟨aZU,ahM,hc28⟩:=ha1.el hx25;have aL9:=ahM;obtain rfl:=ahM;refine RL.y rfl (Y.indexAddr (m:=k23) (sz:=1) rfl rfl aL7 aL8 (by kernel_rfl))<|I7 (.int .i64 x22) rfl (cu (cellT T (hc28 0 _ rfl))) ?_;refine RL.yD (e:=2) (cells:=#[.int .i64 x22]) rfl (pm1 rfl) (by kernel_rfl) (fun w31 B32 aj9 apV=>?_);have a1Y:w.heap.size≤uS.heap.size:=T.size;have aPh:=Dj.new (v:=.slice (some ⟨uS.heap.size,0,none⟩) 1 1) afi (aA.hi aq3);have aq3:=aA.below aq3 aj9;have T:=Tt T aj9;have G35:=aA.lit (enc:=encI) (sz:=1) (xs:=[x22]) B32 a1Y rfl rfl rfl rfl;obtain ⟨_,m37,hm⟩:=bnd hm;have a1Z:=h_ m37;refine RL.append fI Gs rfl rfl rfl aq3 (aA.arg fI G35) T.size a1Z (fun v39 w40 G41 a94 aJM a95=>?_);have aAD:=aJM.size;have T:=T.trans aJM;refine Ez v39<|RL.nil ?_;refine eF (ah ?_);refine au rfl<|aT I8<|RQ.y rfl (Y.dS rfl rfl (bn (m:=ZG) (by omega)))<|aW (.int .i64 (ZG+1))<|RQ.nil ?_;exact (ah ⟨g,_,Nat.lt_succ_self _,rfl,⟨(xs9 ++ [x22]),(ZG+1),(v39),dQ,iF,rfl,G41,rfl,(by omega),T,(by rw [← d_]; exact hm)⟩⟩)
end
end Go.Proofs.YtkfmlehhbanopaaGreat
