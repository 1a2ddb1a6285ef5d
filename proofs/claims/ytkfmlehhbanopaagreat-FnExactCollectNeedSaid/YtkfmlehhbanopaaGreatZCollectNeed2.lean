/- Lemmas of the proof of CollectNeed, part 2. No condition. -/
import Derived.Test.YtkfmlehhbanopaaGreatZCollectNeed1
namespace Go.Proofs.YtkfmlehhbanopaaGreat
set_option linter.unusedVariables false
set_option linter.unusedSimpArgs false
section
open Go.RowKit
def mbT (k:Nat):Bool:=(k:Int) % 3==0
def mkT (k:Nat) (x:bD):bD:=⟨mbT k,⟨⟨((k+1:Nat):Int),((k+2:Nat):Int),marks (k+3) x.closure.term.data.length,oM (k+3+x.closure.term.data.length) x.closure.term.kids⟩,marks (k+3+x.closure.term.data.length+bJ fJ x.closure.term.kids) x.closure.env.length⟩⟩
def mg (x:bD):Nat:=3+x.closure.term.data.length+bJ fJ x.closure.term.kids+x.closure.env.length
def G8 (k:Nat) (xs:List bD):List bD:=mkL mkT mg k xs
theorem apT :∀xs:List bD,3 * xs.length≤bJ mg xs
 |[]=>by simp [bJ]
 |x :: xs=>by
  have:=apT xs
  have h:3≤mg x:=by unfold mg; omega
  rw [Gn,List.length_cons]; omega
theorem aAh {xs:List bD} {k:Nat} {x:bD} (h:xs[k]? = some x):mg x≤bJ mg xs:=by
 have h1:=DZ (cnt:=mg) h
 have h2:=EY (cnt:=mg) xs (k+1)
 omega
theorem nd3 {b:Nat} {b1 x1 x2 x3 b3:List Nat} (h:(b :: (b1 ++ ((x1 ++ x2 ++ x3) ++ b3))).Nodup) :
  (x1.Nodup∧x2.Nodup∧x3.Nodup)∧(∀j,j∈x1→j ∉ x2∧j ∉ x3)∧(∀j,j∈x2→j ∉ x3)∧(b ∉ x1∧b ∉ x2∧b ∉ x3)∧(∀j,j∈b1→j ≠ b∧j ∉ x1 ++ x2 ++ x3)∧∀j,j∈b3→j ≠ b∧j ∉ x1 ++ x2 ++ x3:=by
 have hb:=(List.nodup_cons.1 h).1
 obtain ⟨_,h3,h4⟩:=List.nodup_append.1 (List.nodup_cons.1 h).2
 obtain ⟨h5,_,h6⟩:=List.nodup_append.1 h3
 obtain ⟨h7,h8,h9⟩:=List.nodup_append.1 h5
 obtain ⟨h10,h11,h12⟩:=List.nodup_append.1 h7
 refine ⟨⟨h10,h11,h8⟩,fun j hj=>⟨fun h=>h12 j hj j h rfl,fun h=>h9 j (by simp [hj]) j h rfl⟩,fun j hj h=>h9 j (by simp [hj]) j h rfl,⟨fun h=>hb (by simp [h]),fun h=>hb (by simp [h]),fun h=>hb (by simp [h])⟩,fun j hj=>⟨fun e=>hb (by rw [← e]; simp [hj]),fun h=>h4 j hj j (List.mem_append_left _ h) rfl⟩,fun j hj=>⟨fun e=>hb (by rw [← e]; simp [hj]),fun h=>h6 j h j hj rfl⟩⟩
theorem aKs {w:World} {b p q:Nat} {u0 u1 u2:Value} (h:q ≠ p) (h':q ≠ p+1) (h2:q ≠ p+1+1):(((w.setCell ⟨b,p,none⟩ u0).setCell ⟨b,p+1,none⟩ u1).setCell ⟨b,p+1+1,none⟩ u2).cell? ⟨b,q,none⟩=w.cell? ⟨b,q,none⟩:=by
 rw [World.cell?_setCell_other _ _ _ _ (fun e=>by injection e with _ e2; omega),World.cell?_setCell_other _ _ _ _ (fun e=>by injection e with _ e2; omega),World.cell?_setCell_other _ _ _ _ (fun e=>by injection e with _ e2; omega)]
theorem aKu {w:World} {b p j:Nat} {u0 u1 u2:Value} (h:j ≠ b):(((w.setCell ⟨b,p,none⟩ u0).setCell ⟨b,p+1,none⟩ u1).setCell ⟨b,p+1+1,none⟩ u2).heap[j]? = w.heap[j]?:=by
 rw [Below.heap_setCell _ ⟨b,p+1+1,none⟩ _ _ h,Below.heap_setCell _ ⟨b,p+1,none⟩ _ _ h,Below.heap_setCell _ ⟨b,p,none⟩ _ _ h]
theorem aGm {w:World} {b p:Nat} {u0 u1 u2 v0 v1 v2:Value} (h0:w.cell? ⟨b,p,none⟩=some v0) (h1:w.cell? ⟨b,p+1,none⟩=some v1) (h2:w.cell? ⟨b,p+2,none⟩=some v2) (d0:w.frozen? ⟨b,p,none⟩=false) (d1:w.frozen? ⟨b,p+1,none⟩=false) (d2:w.frozen? ⟨b,p+2,none⟩=false):PG (((w.setCell ⟨b,p,none⟩ u0).setCell ⟨b,p+1,none⟩ u1).setCell ⟨b,p+1+1,none⟩ u2) b p [u0,u1,u2]:=
 Gm (w:=w) (vs:=[u0,u1,u2]) (fun j hj=>by
  rcases j with _|_|_|j
  ·exact ⟨_,h0⟩
  ·exact ⟨_,h1⟩
  ·exact ⟨_,h2⟩
  ·simp only [List.length_cons,List.length_nil] at hj; omega) (fun j hj=>by
  rcases j with _|_|_|j
  ·exact d0
  ·exact d1
  ·exact d2
  ·simp only [List.length_cons,List.length_nil] at hj; omega)
set_option maxHeartbeats 8000000 in
theorem ant (A:Option Addr) (n c k0:Nat) (xs:List bD) (bs:List Nat) (w:World) (hx:iV fD 6 w A n xs bs) (hnd:bs.Nodup) (hs:bJ mg xs≤4194304) (hk0:k0+bJ mg xs≤4294967296) :
  Calls Tryz.prog 37 #[.slice A n c,.int .i64 k0] w fun e w'=>e=.returned (.int .i64 ((k0+bJ mg xs:Nat):Int))∧iV fD 6 w' A n (G8 k0 xs) bs∧Only bs w w':=by
 have lx:=Lib.hid hx.len
 have hcl:=apT xs
 have hn:n≤4194304:=by have:=lx.out; omega
 have hmid:=Lib.hid hx.mid
 clear hx
 go_enter Tryz.func37,Tryz.ntmps37
 go_wp2_with fail
 go_loopw [1,5] (fun kk i wr=>∃k:Nat,k≤n∧i=.int .i64 k∧kk=.int .i64 ((k0:Int)+(bJ mg (xs.take k):Nat))∧Only bs w wr∧Hid (KP fD 6 wr A (G8 k0 (xs.take k)) (xs.drop k) bs)) (fun _ i _=>n - (intOf i).toNat)
 case atStart=>exact ⟨0,by omega,rfl,by simp [bJ],Only.refl _ _,hmid.out⟩
 case round=>
  obtain ⟨k,hk,rfl,rfl,ho,hm⟩:=hrel
  by_cases hlt:k < n
  ·obtain ⟨x,hxk⟩ :∃x,xs[k]? = some x:=⟨_,List.getElem?_eq_getElem (by have:=lx.out; omega)⟩
   have hm:=hm.out
   rw [SC hxk] at hm
   obtain ⟨b,o,cs,b1,bx,b3,rfl,hbs,hO,hc,h1,h2⟩:=hm.next
   have hlen:(G8 k0 (xs.take k)).length=k:=by unfold G8; rw [JQ,List.length_take]; have:=lx.out; omega
   rw [hlen] at hc h2
   obtain ⟨A1,n1,c1,A2,n2,c2,A3,n3,c3,x1,x2,x3,rfl,⟨g1,r1⟩,⟨g2,r2⟩,⟨g3,r3⟩,rfl⟩:=hO
   obtain ⟨hc0,hd0⟩:=hc 0 _ rfl
   obtain ⟨hc1,hd1⟩:=hc 1 _ rfl
   obtain ⟨hc2,hd2⟩:=hc 2 _ rfl
   obtain ⟨hc3,hd3⟩:=hc 3 _ rfl
   obtain ⟨hc4,hd4⟩:=hc 4 _ rfl
   obtain ⟨hc5,hd5⟩:=hc 5 _ rfl
   rw [Nat.add_zero] at hc0 hd0
   have hsm:=aAh hxk
   have hct:=DZ (cnt:=mg) hxk
   have hcx:mg x=3+x.closure.term.data.length+bJ fJ x.closure.term.kids+x.closure.env.length:=rfl
   have hcm:=EY (cnt:=mg) xs (k+1)
   have hck:=EY (cnt:=mg) xs k
   have hnd':=hnd
   rw [hbs] at hnd'
   have ND:=Lib.hid (nd3 hnd')
   have l1:=Lib.hid g1.len
   have l2:=Lib.hid g2.len
   have l3:=Lib.hid g3.len
   have hkc:=YI x.closure.term.kids
   have HE:=Lib.hid h2
   have HF:=Lib.hid h1
   have G1:=Lib.hid g1
   have G2:=Lib.hid g2
   have G3:=Lib.hid g3
   have HX:=Lib.hid hxk
   have HI:=Lib.hid hbs
   have HL:=Lib.hid hct
   have HLN:=Lib.hid hlen
   have HD0:=Lib.hid hd0
   have HD1:=Lib.hid hd1
   have HD2:=Lib.hid hd2
   clear h2 h1 g1 g2 g3 hxk hbs hct hlen hnd' hm hc
   go_wp2_with fail
   have nd:=ND.out
   have TA:Touch b (o+k * 6) 6 (x1 ++ x2 ++ x3) wr (((wr.setCell ⟨b,o+k * 6,none⟩ (.bool (((k0:Int)+(bJ mg (xs.take k):Nat)) % 3==0))).setCell ⟨b,o+k * 6+1,none⟩ (.int .i64 ((k0:Int)+(bJ mg (xs.take k):Nat)+1))).setCell ⟨b,o+k * 6+1+1,none⟩ (.int .i64 ((k0:Int)+(bJ mg (xs.take k):Nat)+1+1))):=((Touch.refl.set (by omega) (by omega) _).set (by omega) (by omega) _).set (by omega) (by omega) _
   have SA:=aGm (u0:=(.bool (((k0:Int)+(bJ mg (xs.take k):Nat)) % 3==0))) (u1:=(.int .i64 ((k0:Int)+(bJ mg (xs.take k):Nat)+1))) (u2:=(.int .i64 ((k0:Int)+(bJ mg (xs.take k):Nat)+1+1))) hc0 hc1 hc2 HD0.out HD1.out HD2.out
   have CA :∀q,q ≠ o+k * 6→q ≠ o+k * 6+1→q ≠ o+k * 6+1+1→(((wr.setCell ⟨b,o+k * 6,none⟩ (.bool (((k0:Int)+(bJ mg (xs.take k):Nat)) % 3==0))).setCell ⟨b,o+k * 6+1,none⟩ (.int .i64 ((k0:Int)+(bJ mg (xs.take k):Nat)+1))).setCell ⟨b,o+k * 6+1+1,none⟩ (.int .i64 ((k0:Int)+(bJ mg (xs.take k):Nat)+1+1))).cell? ⟨b,q,none⟩=wr.cell? ⟨b,q,none⟩:=fun q h h' h2=>aKs h h' h2
   have BA :∀j,j ≠ b→(((wr.setCell ⟨b,o+k * 6,none⟩ (.bool (((k0:Int)+(bJ mg (xs.take k):Nat)) % 3==0))).setCell ⟨b,o+k * 6+1,none⟩ (.int .i64 ((k0:Int)+(bJ mg (xs.take k):Nat)+1))).setCell ⟨b,o+k * 6+1+1,none⟩ (.int .i64 ((k0:Int)+(bJ mg (xs.take k):Nat)+1+1))).heap[j]? = wr.heap[j]?:=fun j h=>aKu h
   generalize (((wr.setCell ⟨b,o+k * 6,none⟩ (.bool (((k0:Int)+(bJ mg (xs.take k):Nat)) % 3==0))).setCell ⟨b,o+k * 6+1,none⟩ (.int .i64 ((k0:Int)+(bJ mg (xs.take k):Nat)+1))).setCell ⟨b,o+k * 6+1+1,none⟩ (.int .i64 ((k0:Int)+(bJ mg (xs.take k):Nat)+1+1)))=wA at TA SA CA BA ⊢
   rw [show (k0:Int)+(bJ mg (xs.take k):Nat)+1+1+1=((k0+bJ mg (xs.take k)+3:Nat):Int) from by omega]
   have e1:=l1.out
   have e2:=l2.out
   have e3:=l3.out
   refine (yN A1 n1 c1 (k0+bJ mg (xs.take k)+3) x.closure.term.data x1 wA (G1.out.keep gW (fun j hj=>BA j (fun e=>nd.2.2.2.1.1 (e ▸ hj)))) nd.1.1 (by omega) (by omega)).mono ?_
   rintro e w4 ⟨rfl,m1,o4⟩
   have C4 :∀q,w4.cell? ⟨b,q,none⟩=wA.cell? ⟨b,q,none⟩:=fun q=>World.cell?_of_block (a:=⟨b,q,none⟩) (o4.block b nd.2.2.2.1.1)
   have T4:Touch b (o+k * 6) 6 (x1 ++ x2 ++ x3) wr w4:=TA.only o4 nd.2.2.2.1.1 (fun j hj=>by simp [hj])
   have aPL:w4.cell? ⟨b,o+k * 6+4,none⟩=some (.slice A2 n2 c2):=(C4 _).trans ((CA _ (by omega) (by omega) (by omega)).trans hc4)
   have HM1:=Lib.hid m1
   have HO4:=Lib.hid o4
   have HT4:=Lib.hid T4
   have HSA:=Lib.hid SA
   have HCA:=Lib.hid CA
   have HC4:=Lib.hid C4
   have HBA:=Lib.hid BA
   clear m1 o4 T4 TA SA CA C4 BA nd
   go_wp2_with fail
   have nd:=ND.out
   have o4:=HO4.out
   have BA:=HBA.out
   have e2:=l2.out
   have e3:=l3.out
   have e5:=HL.out
   have X2 :∀j,j∈x2→w4.heap[j]? = wr.heap[j]?:=fun j hj=>(o4.block j (fun h=>(nd.2.1 j h).1 hj)).trans (BA j (fun e=>nd.2.2.2.1.2.1 (e ▸ hj)))
   have X3 :∀j,j∈x3→w4.heap[j]? = wr.heap[j]?:=fun j hj=>(o4.block j (fun h=>(nd.2.1 j h).2 hj)).trans (BA j (fun e=>nd.2.2.2.1.2.2 (e ▸ hj)))
   rw [show (k0:Int)+(bJ mg (xs.take k):Nat)+3+(x.closure.term.data.length:Nat)=((k0+bJ mg (xs.take k)+3+x.closure.term.data.length:Nat):Int) from by omega]
   refine (P8 _ A2 _ c2 (k0+bJ mg (xs.take k)+3+x.closure.term.data.length) x.closure.term.kids x2 w4 (Nat.le_refl _) (by have:=G2.out.keep aC X2; rw [e2] at this; exact this) nd.1.2.1 (by omega) (by omega)).mono ?_
   rintro e w5 ⟨rfl,m2,o5⟩
   have C5 :∀q,w5.cell? ⟨b,q,none⟩=w4.cell? ⟨b,q,none⟩:=fun q=>World.cell?_of_block (a:=⟨b,q,none⟩) (o5.block b nd.2.2.2.1.2.1)
   have T5:Touch b (o+k * 6) 6 (x1 ++ x2 ++ x3) wr w5:=HT4.out.only o5 nd.2.2.2.1.2.1 (fun j hj=>by simp [hj])
   have aXw:w5.cell? ⟨b,o+k * 6+5,none⟩=some (.slice A3 n3 c3):=(C5 _).trans ((HC4.out _).trans ((HCA.out _ (by omega) (by omega) (by omega)).trans hc5))
   have HM2:=Lib.hid m2
   have HO5:=Lib.hid o5
   have HT5:=Lib.hid T5
   have HC5:=Lib.hid C5
   have HX3:=Lib.hid X3
   clear m2 o5 T5 C5 X2 X3 nd o4 BA
   go_wp2_with fail
   have nd:=ND.out
   have o5:=HO5.out
   have e3:=l3.out
   have e5:=HL.out
   rw [show (k0:Int)+(bJ mg (xs.take k):Nat)+3+(x.closure.term.data.length:Nat)+(bJ fJ x.closure.term.kids:Nat)=((k0+bJ mg (xs.take k)+3+x.closure.term.data.length+bJ fJ x.closure.term.kids:Nat):Int) from by omega]
   refine (yN A3 _ c3 (k0+bJ mg (xs.take k)+3+x.closure.term.data.length+bJ fJ x.closure.term.kids) x.closure.env x3 w5 (by have:=G3.out.keep gW (w':=w5) (fun j hj=>(o5.block j (fun h=>nd.2.2.1 j h hj)).trans (HX3.out j hj)); rw [e3] at this; exact this) nd.1.2.2 (by omega) (by omega)).mono ?_
   rintro e w7 ⟨rfl,m3,o7⟩
   have HM3:=Lib.hid m3
   have HO7:=Lib.hid o7
   clear m3 o7 nd o5
   go_wp2_with fail
   go_roundw
   case rel=>
    have nd:=ND.out
    have o4:=HO4.out
    have o5:=HO5.out
    have o7:=HO7.out
    have T7:Touch b (o+k * 6) 6 (x1 ++ x2 ++ x3) wr w7:=HT5.out.only o7 nd.2.2.2.1.2.2 (fun j hj=>by simp [hj])
    have CW :∀q,w7.cell? ⟨b,q,none⟩=wA.cell? ⟨b,q,none⟩:=fun q=>(World.cell?_of_block (a:=⟨b,q,none⟩) (o7.block b nd.2.2.2.1.2.2)).trans ((HC5.out q).trans (HC4.out q))
    have CR :∀q,q ≠ o+k * 6→q ≠ o+k * 6+1→q ≠ o+k * 6+1+1→w7.cell? ⟨b,q,none⟩=wr.cell? ⟨b,q,none⟩:=fun q h h' h2=>(CW q).trans (HCA.out q h h' h2)
    refine ⟨k+1,by omega,by go_num,congrArg (Value.int .i64) (by omega),ho.trans (T7.bK.mono (fun j hj=>?_)),?_⟩
    ·rw [HI.out]; simp only [List.mem_cons,List.mem_append] at hj ⊢
     rcases hj with hj|hj
     ·exact .inl hj
     ·exact .inr (.inr (.inl hj))
    ·show Hid _
     refine ?_
     unfold G8
     rw [agT HX.out,HI.out]
     have hl:=HLN.out
     unfold G8 at hl
     refine KP.step (o:=o) (cs:=[.bool (((k0:Int)+(bJ mg (xs.take k):Nat)) % 3==0),.int .i64 ((k0:Int)+(bJ mg (xs.take k):Nat)+1),.int .i64 ((k0:Int)+(bJ mg (xs.take k):Nat)+1+1),.slice A1 n1 c1,.slice A2 n2 c2,.slice A3 n3 c3]) rfl ?_ ?_ ?_ ?_
     ·refine vO.ZA aS (w:=wr) (fun q h1 h2=>?_) (fun j hj=>T7.block j (nd.2.2.2.2.1 j hj).1 (nd.2.2.2.2.1 j hj).2) HF.out
      unfold G8 at h2
      rw [hl] at h2
      exact ⟨T7.cell q (.inl (by omega)),T7.frozen q⟩
     ·refine ⟨A1,n1,c1,A2,n2,c2,A3,n3,c3,x1,x2,x3,?_,⟨?_,r1⟩,⟨?_,r2⟩,⟨?_,r3⟩,rfl⟩
      ·show _=[Value.bool (((k0+bJ mg (xs.take k):Nat):Int) % 3==0),.int .i64 ((k0+bJ mg (xs.take k)+1:Nat):Int),.int .i64 ((k0+bJ mg (xs.take k)+2:Nat):Int),.slice A1 n1 c1,.slice A2 n2 c2,.slice A3 n3 c3]
       rw [show ((k0+bJ mg (xs.take k):Nat):Int)=(k0:Int)+(bJ mg (xs.take k):Nat) from by omega,show ((k0+bJ mg (xs.take k)+1:Nat):Int)=(k0:Int)+(bJ mg (xs.take k):Nat)+1 from by omega,show ((k0+bJ mg (xs.take k)+2:Nat):Int)=(k0:Int)+(bJ mg (xs.take k):Nat)+1+1 from by omega]
      ·have h:=HM1.out.keep gW (w':=w7) (fun j hj=>(o7.block j (nd.2.1 j hj).2).trans (o5.block j (nd.2.1 j hj).1))
       show iV mF 1 w7 A1 n1 (marks (k0+bJ mg (xs.take k)+3) x.closure.term.data.length) x1
       rw [← e1]; exact h
      ·have h:=HM2.out.keep aC (w':=w7) (fun j hj=>o7.block j (nd.2.2.1 j hj))
       show iV dI 4 w7 A2 n2 (oM (k0+bJ mg (xs.take k)+3+x.closure.term.data.length) x.closure.term.kids) x2
       rw [e2]; exact h
      ·show iV mF 1 w7 A3 n3 (marks (k0+bJ mg (xs.take k)+3+x.closure.term.data.length+bJ fJ x.closure.term.kids) x.closure.env.length) x3
       rw [e3]; exact HM3.out
     ·rw [hl]
      intro j v hj
      rcases j with _|_|_|_|_|_|j
      ·simp at hj; subst hj; exact ⟨(CW _).trans (HSA.out 0 _ rfl).1,(T7.frozen _).trans hd0⟩
      ·simp at hj; subst hj; exact ⟨(CW _).trans (HSA.out 1 _ rfl).1,(T7.frozen _).trans hd1⟩
      ·simp at hj; subst hj; exact ⟨(CW _).trans (HSA.out 2 _ rfl).1,(T7.frozen _).trans hd2⟩
      ·simp at hj; subst hj; exact ⟨(CR _ (by omega) (by omega) (by omega)).trans hc3,(T7.frozen _).trans hd3⟩
      ·simp at hj; subst hj; exact ⟨(CR _ (by omega) (by omega) (by omega)).trans hc4,(T7.frozen _).trans hd4⟩
      ·simp at hj; subst hj; exact ⟨(CR _ (by omega) (by omega) (by omega)).trans hc5,(T7.frozen _).trans hd5⟩
      ·simp at hj
     ·rw [hl]
      exact vO.ZA aS (w:=wr) (fun q h1 h2=>⟨T7.cell q (.inr (by omega)),T7.frozen q⟩) (fun j hj=>T7.block j (nd.2.2.2.2.2 j hj).1 (nd.2.2.2.2.2 j hj).2) HE.out
   case measure=>simp [intOf]; omega
  ·obtain rfl:n=k:=by omega
   have hlast:xs.take n=xs:=List.take_of_length_le (by have:=lx.out; omega)
   have hdl:xs.drop n=[]:=List.drop_eq_nil_of_le (by have:=lx.out; omega)
   have hm:=hm.out
   rw [hlast,hdl] at hm
   rw [hlast]
   have HM:=Lib.hid (hm.whole (by unfold G8; rw [JQ]; first|done|exact lx.out))
   clear hlast hdl hm
   go_wp2_with fail
   go_ret
   exact ⟨aKh (by omega),by rw [lx.out]; first|exact HM.out|(have h:=HM.out; rw [lx.out] at h; exact h),ho⟩
end
section
open Go.RowKit
set_option maxHeartbeats 4000000 in
theorem asR (kd vl:Int) (A1 A2:Option Addr) (n1 c1 n2 c2:Nat) (d:List Int) (ks:List ak) (bd bp:List Nat) (w:World) (k0:Nat) (hd:iV mF 1 w A1 n1 d bd) (hp:iV dI 4 w A2 n2 ks bp) (hnd:(bd ++ bp).Nodup) (hb :∀j∈bd ++ bp,j < w.heap.size) (hs:d.length+bJ fJ ks≤4194304) (hk:k0+(d.length+bJ fJ ks)≤4294967296) :
  Calls Tryz.prog 71 #[.agg #[.int .i64 kd,.int .i64 vl,.slice A1 n1 c1,.slice A2 n2 c2],.int .i64 k0] w fun e w'=>e=.returned (.int .i64 ((k0+(d.length+bJ fJ ks):Nat):Int))∧∃wb,Below w.heap.size w wb∧wb.heap.size=w'.heap.size∧Only (bd ++ bp) wb w'∧iV mF 1 w' A1 n1 (marks k0 d.length) bd∧iV dI 4 w' A2 n2 (oM (k0+d.length) ks) bp:=by
 have hA :∀o1,Below w.heap.size w (w.alloc o1):=fun o1=>(Below.refl _ _).alloc (Nat.le_refl _) _
 have HD:=Lib.hid (show∀o1,iV mF 1 (w.alloc o1) A1 n1 d bd from fun o1=>hd.keep gW (fun j hj=>(hA o1).block j (hb j (by simp [hj]))))
 have HP:=Lib.hid (show∀o1,iV dI 4 (w.alloc o1) A2 n2 ks bp from fun o1=>hp.keep aC (fun j hj=>(hA o1).block j (hb j (by simp [hj]))))
 have N0:=Lib.hid (List.nodup_append.1 hnd)
 have HB:=Lib.hid hb
 have ld:=Lib.hid hd.len
 have lp:=Lib.hid hp.len
 have B0:=Lib.hid (show∀o1,(w.alloc o1).heap[w.heap.size]? = some o1 from fun o1=>heap_alloc_new w o1)
 clear hb hnd hd hp
 go_enter Tryz.func71,Tryz.ntmps71
 go_wp2_with fail
 refine (yN A1 n1 c1 k0 d bd _ (HD.out _) N0.out.1 (by have:=ld.out; omega) (by omega)).mono ?_
 rintro e w1 ⟨rfl,m1,o1⟩
 have hbk:w.heap.size ∉ bd:=fun hin=>by have:=HB.out w.heap.size (by simp [hin]); omega
 have B1:dD w1 w.heap.size 38 #[.int .i64 kd,.int .i64 vl,.slice A1 n1 c1,.slice A2 n2 c2]:=(o1.block _ hbk).trans (B0.out _)
 have g0:=B1.cell
 have M1:=Lib.hid m1
 have O1:=Lib.hid o1
 clear m1
 go_wp2_with fail
 have e1:=ld.out
 rw [show (k0:Int)+(n1:Nat)=((k0+n1:Nat):Int) from by omega]
 refine (P8 _ A2 n2 c2 (k0+n1) ks bp w1 (Nat.le_refl _) ((HP.out _).keep aC (fun j hj=>o1.block j (fun hin=>N0.out.2.2 j hin j hj rfl))) N0.out.2.1 (by omega) (by omega)).mono ?_
 rintro e w2 ⟨rfl,m2,o2⟩
 have M2:=Lib.hid m2
 have O2:=Lib.hid o2
 clear m2 o1 o2
 go_wp2_with fail
 go_ret
 have OO:Only (bd ++ bp) _ w2:=(O1.out.mono (fun j hj=>by simp [hj])).trans (O2.out.mono (fun j hj=>by simp [hj]))
 refine ⟨congrArg (fun z=>Ending.returned (Value.int .i64 z)) (by omega),_,hA _,OO.size.symm,OO,?_,?_⟩
 ·have:=M1.out.keep gW (w':=w2) (fun j hj=>O2.out.block j (fun hin=>N0.out.2.2 j hj j hin rfl))
  rw [← e1]; exact this
 ·have:=M2.out
  rw [← e1]; exact this
set_option maxHeartbeats 4000000 in
theorem aj1 (kd vl:Int) (A1 A2 A3:Option Addr) (n1 c1 n2 c2 n3 c3:Nat) (d:List Int) (ks:List ak) (ev:List Int) (bd bp be:List Nat) (w:World) (k0:Nat) (hd:iV mF 1 w A1 n1 d bd) (hp:iV dI 4 w A2 n2 ks bp) (he:iV mF 1 w A3 n3 ev be) (hnd:(bd ++ bp ++ be).Nodup) (hb :∀j∈bd ++ bp ++ be,j < w.heap.size) (hs:d.length+bJ fJ ks≤4194304) (hs2:ev.length≤4194304) (hk:k0+(d.length+bJ fJ ks)+ev.length≤4294967296) :
  Calls Tryz.prog 35 #[.agg #[.int .i64 kd,.int .i64 vl,.slice A1 n1 c1,.slice A2 n2 c2,.slice A3 n3 c3],.int .i64 k0] w fun e w'=>e=.returned (.int .i64 ((k0+(d.length+bJ fJ ks)+ev.length:Nat):Int))∧∃wb,Below w.heap.size w wb∧wb.heap.size=w'.heap.size∧Only (bd ++ bp ++ be) wb w'∧iV mF 1 w' A1 n1 (marks k0 d.length) bd∧iV dI 4 w' A2 n2 (oM (k0+d.length) ks) bp∧iV mF 1 w' A3 n3 (marks (k0+(d.length+bJ fJ ks)) ev.length) be:=by
 have hA :∀o1,Below w.heap.size w (w.alloc o1):=fun o1=>(Below.refl _ _).alloc (Nat.le_refl _) _
 have hz :∀o1,(w.alloc o1).heap.size=w.heap.size+1:=fun o1=>by simp
 have HD:=Lib.hid (show∀o1,iV mF 1 (w.alloc o1) A1 n1 d bd from fun o1=>hd.keep gW (fun j hj=>(hA o1).block j (hb j (by simp [hj]))))
 have HP:=Lib.hid (show∀o1,iV dI 4 (w.alloc o1) A2 n2 ks bp from fun o1=>hp.keep aC (fun j hj=>(hA o1).block j (hb j (by simp [hj]))))
 have HE:=Lib.hid (show∀o1,iV mF 1 (w.alloc o1) A3 n3 ev be from fun o1=>he.keep gW (fun j hj=>(hA o1).block j (hb j (by simp [hj]))))
 have N0:=Lib.hid (List.nodup_append.1 hnd)
 have HB:=Lib.hid hb
 have le:=Lib.hid he.len
 have B0:=Lib.hid (show∀o1,(w.alloc o1).heap[w.heap.size]? = some o1 from fun o1=>heap_alloc_new w o1)
 have HZ:=Lib.hid hz
 have HA:=Lib.hid hA
 clear hb hnd hd hp he hz hA
 go_enter Tryz.func35,Tryz.ntmps35
 go_wp2_with fail
 refine (asR kd vl A1 A2 n1 c1 n2 c2 d ks bd bp _ k0 (HD.out _) (HP.out _) N0.out.1 (fun j hj=>by have:=HB.out j (by simp only [List.mem_append] at hj ⊢; exact .inl hj); rw [HZ.out]; omega) hs (by omega)).mono ?_
 rintro e w1 ⟨rfl,wb,b1,z1,o1,m1,m2⟩
 have hbk:w.heap.size ∉ bd ++ bp:=fun hin=>by have:=HB.out w.heap.size (by simp only [List.mem_append] at hin ⊢; exact .inl hin); omega
 have B1:dD w1 w.heap.size 40 #[.int .i64 kd,.int .i64 vl,.slice A1 n1 c1,.slice A2 n2 c2,.slice A3 n3 c3]:=(o1.block _ hbk).trans ((b1.block _ (by rw [HZ.out]; omega)).trans (B0.out _))
 have g0:=B1.cell
 have OE:iV mF 1 w1 A3 n3 ev be:=(HE.out _).keep gW (fun j hj=>(o1.block j (fun hin=>N0.out.2.2 j hin j hj rfl)).trans (b1.block j (by have:=HB.out j (by simp [hj]); rw [HZ.out]; omega)))
 have BB:Below w.heap.size w wb:=(HA.out _).trans (b1.mono (by rw [HZ.out]; omega))
 have M1:=Lib.hid m1
 have M2:=Lib.hid m2
 have O1:=Lib.hid o1
 have Z1:=Lib.hid z1
 have HBB:=Lib.hid BB
 have HOE:=Lib.hid OE
 clear m1 m2 o1 z1 b1 BB OE
 go_wp2_with fail
 have e3:=le.out
 rw [show (k0:Int)+((d.length:Int)+(bJ fJ ks:Nat))=((k0+(d.length+bJ fJ ks):Nat):Int) from by omega]
 refine (yN A3 n3 c3 (k0+(d.length+bJ fJ ks)) ev be w1 HOE.out N0.out.2.1 (by omega) (by omega)).mono ?_
 rintro e w2 ⟨rfl,m3,o2⟩
 have M3:=Lib.hid m3
 have O2:=Lib.hid o2
 clear m3 o2
 go_wp2_with fail
 go_ret
 refine ⟨congrArg (fun z=>Ending.returned (Value.int .i64 z)) (by omega),wb,HBB.out,Z1.out.trans O2.out.size.symm,(O1.out.mono (fun j hj=>List.mem_append_left _ hj)).trans (O2.out.mono (fun j hj=>List.mem_append_right _ hj)),?_,?_,?_⟩
 ·exact M1.out.keep gW (fun j hj=>O2.out.block j (fun hin=>N0.out.2.2 j (by simp [hj]) j hin rfl))
 ·exact M2.out.keep aC (fun j hj=>O2.out.block j (fun hin=>N0.out.2.2 j (by simp [hj]) j hin rfl))
 ·have:=M3.out
  rw [← e3]; exact this
end
section
open Go.RowKit
theorem EO:afV Tryz.prog 36 38 (.agg #[.int .i64 0,.int .i64 0,.slice none 0 0,.slice none 0 0]) 4 64:=⟨by kernel_rfl,by kernel_rfl,rfl,by decide⟩
end
section
open Go.RowKit
theorem yc {α:Type} {xs:List α} {i:Int} {k:Nat} {x:α} (h:i=(k:Int)):kX xs i x=xs.set k x:=by subst h; rfl
/-- Only the rows of v1 and v2 may have turned, of what was there. -/
structure G_ (v1 v2:Value) (w w':World):Prop where
 size:w.heap.size≤w'.heap.size
 block :∀b,b < w.heap.size→v1.ownBlock ≠ some b→v2.ownBlock ≠ some b→w'.heap[b]? = w.heap[b]?
section
variable {v1 v2 v : Value} {w w' w2 : World} {b : Nat}
theorem G_.refl (v1 v2:Value) (w:World):G_ v1 v2 w w:=⟨Nat.le_refl _,fun _ _ _ _=>rfl⟩
theorem G_.below (K:G_ v1 v2 w w') (hb:Below w'.heap.size w' w2):G_ v1 v2 w w2:=⟨Nat.le_trans K.size hb.size,fun b h1 h2 h3=>(hb.block b (Nat.lt_of_lt_of_le h1 K.size)).trans (K.block b h1 h2 h3)⟩
theorem G_.aPM (K:G_ v1 v2 w w') (ho:Only [b] w' w2) (e:v1.ownBlock=some b):G_ v1 v2 w w2:=⟨Nat.le_trans K.size (Nat.le_of_eq ho.size.symm),fun k h1 h2 h3=>(ho.block k (by intro hin; simp at hin; subst hin; exact h2 e)).trans (K.block k h1 h2 h3)⟩
end
section
variable {α : Type} {enc : α → List Value} {O : Ow α} {sz lo : Nat} {v v1 v2 : Value} {xs : List α} {w w' : World} {e : TypeId} {bs : List Nat}
theorem aA.ZE {A:Option Addr} {n c:Nat} (h:aA e enc sz w lo (.slice A n c) xs):n=xs.length:=by
 obtain ⟨A',c',e1⟩:=h.form
 injection e1
theorem aA.aI0 (h:aA e enc sz w lo v xs) (K:G_ v1 v2 w w') (d1:Dj v v1) (d2:Dj v v2):aA e enc sz w' lo v xs:=by
 refine ⟨h.1,?_⟩
 rcases h.2 with h2|⟨g,cap,cur,hv,hg,hh,r⟩
 ·exact .inl h2
 ·have hb:v.ownBlock=some g:=by rw [hv]; rfl
  exact .inr ⟨g,cap,cur,hv,hg,(K.block g (h.lt g hb).2 (d1 g hb) (d2 g hb)).trans hh,r⟩
end
section
variable {P : Program} {C : World → Prop} {f : Nat → Value} {d : Option Tmp} {ty : TypeId} {pos : String} {af : Array Edge} {g : Option (Nat × Bool)} {x y : Operand} {t t' : TypeId} {m c : Int}
theorem Y.rem (hx:ev f x=.int .i64 m) (hy:ev f y=.int .i64 c) (hc:c ≠ 0):Y P C f ⟨d,.binOp .rem t x y t',ty,pos,af,g⟩ (.int .i64 (m.tmod c)):=fun w _=>by
 simp only [execOp,hx,hy,Sem.run_bind,afg,Result.andThen_ok]
 simp [binOp,Op.intDiv,hc]
end
end
section
open Go.RowKit
theorem Parts.rep {α:Type} {O:Ow α} {w:World} {zc:List Value} {x0:α} (hO:O w zc x0 []) :∀n:Nat,Parts O w ((List.replicate n ()).flatMap fun _=>zc) (List.replicate n x0) []
 |0=>⟨rfl,rfl⟩
 |n+1=>⟨zc,(List.replicate n ()).flatMap fun _=>zc,[],[],by rw [List.replicate_succ,List.flatMap_cons],hO,rfl,Parts.rep hO n⟩
section
variable {P : Program} {ops : Array Oper} {f : Nat → Value} {rest : List Oper} {Q : (Nat → Value) → World → Prop} {w : World} {d : Option Tmp} {ty : TypeId} {pos : String} {af : Array Edge} {g : Option (Nat × Bool)} {x y : Operand} {t e : TypeId} {z : Value} {sz bb : Nat}
theorem RL.aAi {α:Type} {O:Ow α} {x0:α} {n:Nat} (A:afV P t e z sz bb) (hp:0 < sz) (hO :∀w,O w z.cells.toList x0 []) (hg:gV f ops ⟨d,.makeSlice t x y,ty,pos,af,g⟩=true)
  (hx:ev f x=.int .i64 n) (hy:ev f y=.int .i64 n) (hn:n≤4294967296)
  (h :∀w1,aH e O sz w1 w.heap.size (.slice (some ⟨w.heap.size,0,none⟩) n n) (List.replicate n x0) [w.heap.size]→Below w.heap.size w w1→w1.heap.size=w.heap.size+1→RL P ops Q rest (ED f d (.slice (some ⟨w.heap.size,0,none⟩) n n)) w1):RL P ops Q (⟨d,.makeSlice t x y,ty,pos,af,g⟩ :: rest) f w:=by
 refine .inl ⟨hg,?_⟩
 have hb:bb * n≤281474976710656:=Nat.le_trans (Nat.mul_le_mul A.bb hn) (by decide)
 have hr:(execOp (ev f) ⟨d,.makeSlice t x y,ty,pos,af,g⟩).run P w=.ok (.value (.slice (some ⟨w.heap.size,0,none⟩) n n)) (w.alloc (.cells (madeCells z.cells (n * sz)) e)):=by
  simp [execOp,hx,hy,afe t e A.und A.info n hb hn w]
 rw [hr]
 have hB:=dD.new w e (madeCells z.cells (n * sz))
 have hF:=Ny (enc:=fun _:Unit=>z.cells.toList) (z0:=()) (z:=z) rfl A.zs hp n
 refine h _ ?_ (KQ _ _) (World.size_alloc _ _)
 refine ⟨(List.replicate n ()).flatMap fun _=>z.cells.toList,[],⟨?_,.inr ⟨w.heap.size,n,_,by simp,Nat.le_refl _,hB,by simp,by unfold maxLen; omega,WI _ _,?_⟩⟩,Parts.rep (hO _) n,List.nodup_nil,fun b hb=>by simp at hb,fun b hb=>?_,fun b hb=>?_⟩
 ·rw [← hF]; simp [madeCells]
 ·rw [← hF,List.take_of_length_le (by simp [madeCells])]
 ·simp [Value.ownBlock] at hb; subst hb; simp
 ·simp at hb; subst hb; rw [World.size_alloc]; omega
theorem RL.anu {α:Type} {O:Ow α} {v:Value} {xs:List α} {lo k n c b:Nat} {a a':α} {bs l fp:List Nat} (ok:BM O sz) (one:axx O) (hg:gV f ops ⟨d,.store t x y,ty,pos,af,g⟩=true) (hx:ev f x=.pointer (some ⟨b,0+k * sz,none⟩)) (hy:ev f y=v)
  (hv:aH e O sz w lo (.slice (some ⟨b,0,none⟩) n c) xs bs) (hk:xs[k]? = some a) (hO:O w v.cells.toList a' l) (nd:l.Nodup) (sub :∀q∈l,q∈fp) (D:Ap bs fp) (hf :∀q∈fp,lo≤q∧q < w.heap.size) (hs:(P.info? t).map (·.size)=some sz)
  (h :∀w1,aH e O sz w1 lo (.slice (some ⟨b,0,none⟩) n c) (xs.set k a') (bs ++ fp)→Only [b] w w1→RL P ops Q rest (ED f d undef) w1):RL P ops Q (⟨d,.store t x y,ty,pos,af,g⟩ :: rest) f w:=by
 refine .inl ⟨hg,?_⟩
 cases hi:P.info? t with
 |none=>rw [hi] at hs; cases hs
 |some inf=>
  rw [hi] at hs
  simp only [Option.map_some,Option.some.injEq] at hs
  obtain ⟨cells,ib,q1,q2,q3,q4,q5,q6⟩:=hv
  rcases q1.2 with ⟨h0,hl0⟩|⟨b',cap,cur,hv,hlo,hh,m1,m2,m3,m4⟩
  ·cases h0
  ·injection hv with e1 e2 e3
   injection e1 with e1
   injection e1 with e1
   subst e1 e2 e3
   obtain ⟨c1,cs,c2,i1,b1,i2,f1,f2,f3,f4,f5⟩:=q2.split ok hk
   have hkl:=lt_of_some hk
   have hcl:=ok.len f3
   have hlen:v.cells.toList.length=sz:=ok.len hO
   have hcs:cells.length=xs.length * sz:=q1.1
   have hkc:k * sz+sz≤xs.length * sz:=by
    have:=Nat.mul_le_mul_right sz (show k+1≤xs.length from hkl)
    rw [Nat.add_mul] at this; omega
   have hcc:xs.length * sz≤cur.size:=by rw [m3]; exact Nat.mul_le_mul_right _ m1
   have hst:=run_storeCells_at (P:=P) b (k * sz) e v.cells.toList 0 cur w hh (by rw [hlen]; omega) (fun u hu=>one hO u hu)
   have hr:(execOp (ev f) ⟨d,.store t x y,ty,pos,af,g⟩).run P w=.ok .skip (w.setRow b (cur.toList.take (k * sz) ++ v.cells.toList ++ cur.toList.drop (k * sz+v.cells.toList.length)).toArray):=by
    simp only [Nat.add_zero] at hst
    have hsz:v.cells.size=inf.size:=by rw [hs,← hlen]; simp
    simp [execOp,hx,hy,Instr.storeAt,Instr.sureAddr,storeVar,sizeOf,typeInfo,hi,hsz,hst]
   rw [hr]
   have hb0:=q5 b rfl
   have hon:=Gp w b (cur.toList.take (k * sz) ++ v.cells.toList ++ cur.toList.drop (k * sz+v.cells.toList.length)).toArray
   have hbl:b ∉ l:=fun hin=>D b hb0.1 (sub b hin)
   rw [f4] at q3 q4
   have hi1 :∀q∈i1,q∈bs:=fun q hq=>q4 q (by simp [hq])
   have hi2 :∀q∈i2,q∈bs:=fun q hq=>q4 q (by simp [hq])
   obtain ⟨n1,n2,n3⟩:=List.nodup_append.1 q3
   obtain ⟨n4,n5,n6⟩:=List.nodup_append.1 n2
   have hbb:b ∉ i1∧b ∉ i2:=by
    have:=hb0.2
    rw [f4] at this
    simp at this
    exact ⟨this.1,this.2.2⟩
   refine h _ ⟨c1 ++ v.cells.toList ++ c2,i1 ++ (l ++ i2),⟨?_,.inr ⟨b,c,_,by rw [List.length_set],hlo,setRow_heap w b cur _ e _ hh,by rw [List.length_set]; exact m1,m2,?_,?_⟩⟩,?_,?_,?_,?_,?_⟩ hon
   ·rw [f1] at hcs
    simp only [List.length_append,List.length_set] at hcs ⊢
    omega
   ·simp only [List.size_toArray,List.length_append,List.length_take,List.length_drop,Array.length_toList,hlen]
    rw [← m3]; omega
   ·rw [List.length_set]
    have hsp:=KT (A:=cur.toList) (E:=v.cells.toList) (p:=k * sz) (L:=xs.length * sz) (by rw [hlen]; omega) (by simpa using hcc)
    rw [hlen] at hsp ⊢
    show List.take (xs.length * sz) (cur.toList.take (k * sz) ++ v.cells.toList ++ cur.toList.drop (k * sz+sz))=_
    rw [hsp,m4,f1]
    have e5:(c1 ++ cs ++ c2).take (k * sz)=c1:=by
     rw [List.append_assoc,← f2,List.take_left]
    have e6:(c1 ++ cs ++ c2).drop (k * sz+sz)=c2:=by
     rw [← f2,← hcl,← List.length_append,List.drop_left]
    rw [e5,e6]
   ·refine f5 _ _ _ _ (fun b' hb'=>hon.block b' (by
     intro hin; simp at hin; subst hin
     rcases List.mem_append.1 hb' with h|h
     ·exact hbb.1 h
     ·exact hbb.2 h)) (ok.keep (fun b' hb'=>hon.block b' (by intro hin; simp at hin; subst hin; exact hbl hb')) hO)
   ·refine List.nodup_append.2 ⟨n1,List.nodup_append.2 ⟨nd,n5,fun a ha b hb e=>?_⟩,fun a ha b hb e=>?_⟩
    ·subst e; exact D a (hi2 a hb) (sub a ha)
    ·subst e
     rcases List.mem_append.1 hb with h|h
     ·exact D a (hi1 a ha) (sub a h)
     ·exact n3 a ha a (by simp [h]) rfl
   ·intro q hq
    rcases List.mem_append.1 hq with h|h
    ·exact List.mem_append.2 (.inl (hi1 q h))
    ·rcases List.mem_append.1 h with h|h
     ·exact List.mem_append.2 (.inr (sub q h))
     ·exact List.mem_append.2 (.inl (hi2 q h))
   ·intro q hq
    have hqb:q=b:=by simp [Value.ownBlock] at hq; exact hq.symm
    subst hqb
    refine ⟨List.mem_append.2 (.inl hb0.1),fun hin=>?_⟩
    rcases List.mem_append.1 hin with h|h
    ·exact hbb.1 h
    ·rcases List.mem_append.1 h with h|h
     ·exact hbl h
     ·exact hbb.2 h
   ·intro q hq
    rw [hon.size]
    rcases List.mem_append.1 hq with h|h
    ·exact q6 q h
    ·exact hf q h
end
end
section
open Go.RowKit
set_option maxRecDepth 100000
def kC:Option Bool:=
  some true
def kD (d0:List Int) (d1:List Int) (eU:Int→Option Bool) (K1:Option Bool) (i3:Int):Option Bool:=
  (bif (decide (i3 < (d0.length:Int))) then ((fC d0 i3).bind fun x6=>((fC d1 i3).bind fun x15=>(bif (x6 != x15) then some false else (eU (i3+1))))) else (K1))
def fQ (d0:List Int) (d1:List Int) (K1:Option Bool):Nat→Int→Option Bool
  |0,_=>none
  |g+1,i3=>kD d0 d1 (fQ d0 d1 K1 g) K1 i3
def mG (d0:List Int) (d1:List Int):Option Bool:=
  (bif ((d0.length:Int) != (d1.length:Int)) then some false else (fQ d0 d1 kC (d0.length+1) 0))
set_option maxHeartbeats 2000000 in
theorem LM (d0:List Int) (d1:List Int) (r:Bool) (hm:mG d0 d1=some r) (v0:Value) (v1:Value) (w:World) (hv0:Sl nR 1 w v0 d0) (hv1:Sl nR 1 w v1 d1) :
    Calls Tryz.prog 123 #[v0,v1] w fun e w'=>e=.returned (.bool r)∧Below w.heap.size w w':=by
  obtain ⟨Bc,na0,ca0,rfl,ha0,GN⟩:=hv0;obtain ⟨rfl,qa0⟩:=bI ha0 GN;obtain ⟨Aa1,na1,ca1,rfl,ha1,ra1⟩:=hv1;obtain ⟨rfl,qa1⟩:=bI ha1 ra1;have T:=Below.refl w.heap.size w;unfold mG at hm;refine enter 26 Tryz.func123 rfl rfl rfl ?_;intro f hf;have s0:f 0=.slice Bc d0.length ca0:=hf 0 _ rfl;have s1:f 1=.slice Aa1 d1.length ca1:=hf 1 _ rfl;refine wp_seq<|au rfl<|aW (.bool false)<|RQ.nil<|ah<|wp_seq<|wp_seq<|au rfl<|aT s0<|yH rfl<|aT s1<|yH rfl<|iq (.bool ((d0.length:Int) != (d1.length:Int)))<|RQ.nil<|ah ?_;rcases aB ((d0.length:Int) != (d1.length:Int)) with c1|c1
  ·replace hm:=cF c1 hm;refine iH c1<|wp_skip<|ah<|wp_seq<|wp_seq<|au rfl<|aT s0<|yH rfl<|dF (.int .i64 0)<|RQ.nil<|ah<|wp_block ?_;obtain ⟨K1,hK1,hm⟩ :∃K,K=kC∧fQ d0 d1 K (d0.length+1) 0=some r:=⟨_,rfl,hm⟩;refine dG (fun g f w'=>∃(i3:Int),f 0=.slice Bc d0.length ca0∧f 1=.slice Aa1 d1.length ca1∧f 12=.int .i64 (d0.length:Int)∧f 13=.int .i64 i3∧0≤i3∧Below w.heap.size w w'∧fQ d0 d1 K1 g i3=some r) 0 (fun f w'=>Below w.heap.size w w'∧kC  = some r) (d0.length+1) ⟨0,s0,s1,rfl,rfl,(by omega),T,hm⟩ ?_ ?_
   ·rintro f w2 ⟨T,hm⟩;unfold kC at hm;refine dW (ah ?_);refine wp_seq<|au rfl<|aW (.bool true)<|RQ.nil<|ah<|wp_ret ?_
    cases hm
    exact (aV rfl rfl rfl ⟨rfl,T⟩)
   rintro g f w4 ⟨i3,dQ,iF,aI1,amk,aXz,T,hm⟩;rcases g with _|g
   ·simp only [fQ] at hm; cases hm
   obtain ⟨eU,d_,hm⟩ :∃z,z=fQ d0 d1 K1 g∧kD d0 d1 z K1 i3=some r:=⟨_,rfl,hm⟩;unfold kD at hm;refine wp_seq<|au rfl<|uZ (.bool (decide (i3 < (d0.length:Int)))) amk aI1 rfl<|RQ.nil<|ah<|wp_seq ?_;rcases aB (decide (i3 < (d0.length:Int))) with c5|c5
   ·replace hm:=cF c5 hm;have pc5:=of_decide_eq_false c5;refine iH c5<|wp_exit ?_;exact (bQ (bQ (iW ⟨_,rfl,⟨T,(by rw [hK1] at hm; exact hm)⟩⟩)))
   replace hm:=cT c5 hm;have pc5:=of_decide_eq_true c5;refine ig c5<|wp_skip<|ah<|wp_seq<|wp_block<|wp_seq<|au rfl<|aT amk<|aW (.int .i64 i3)<|RQ.nil<|ah<|wp_seq<|FC (by kernel_rfl) (by kernel_rfl)<|aT dQ<|dF (.int .i64 i3) ?_;obtain ⟨x6,hx9,hm⟩:=bnd hm;obtain ⟨k7,hk10,adO,hx9⟩:=aU hx9;obtain ⟨b13,o14,rfl,aml⟩:=ha0.addr (by omega);obtain ⟨cs8,Gv,hc12⟩:=ha0.el hx9;have amm:=Gv;obtain rfl:=Gv;refine RQ.y rfl (Y.indexAddr (m:=k7) (sz:=1) rfl rfl hk10 adO (by kernel_rfl))<|gZ (.int .i64 x6) rfl (bV (cellT T (hc12 0 _ rfl)))<|aT iF<|dF (.int .i64 i3) ?_;obtain ⟨x15,aar,hm⟩:=bnd hm;obtain ⟨k16,asT,asU,aar⟩:=aU aar;obtain ⟨b22,o23,rfl,aAj⟩:=ha1.addr (by omega);obtain ⟨aKv,NJ,hc21⟩:=ha1.el aar;have asV:=NJ;obtain rfl:=NJ;refine RQ.y rfl (Y.indexAddr (m:=k16) (sz:=1) rfl rfl asT asU (by kernel_rfl))<|gZ (.int .i64 x15) rfl (bV (cellT T (hc21 0 _ rfl)))<|iq (.bool (x6 != x15))<|RQ.nil ?_;intro w24 PI;have afl:=PI.size;have T:=Tt T PI;refine ah ?_;rcases aB (x6 != x15) with Jj|Jj
   ·replace hm:=cF Jj hm;refine iH Jj<|wp_skip ?_;refine eF (ah ?_);refine au rfl<|RQ.y rfl (Y.dS amk rfl (bn (m:=i3) (by omega)))<|dF (.int .i64 (i3+1))<|RQ.nil ?_;exact (ah ⟨g,_,Nat.lt_succ_self _,rfl,⟨(i3+1),dQ,iF,aI1,rfl,(by omega),T,(by rw [← d_]; exact hm)⟩⟩)
   replace hm:=cT Jj hm;refine ig Jj<|wp_seq<|au rfl<|aW (.bool false)<|RQ.nil<|ah<|wp_ret ?_
   cases hm
   exact (bC (aF (aF (jG (bC (aF (aV rfl rfl rfl ⟨rfl,T⟩)))))))
  replace hm:=cT c1 hm;refine ig c1<|wp_seq<|au rfl<|aW (.bool false)<|RQ.nil<|ah<|wp_ret ?_
  cases hm
  exact (aF (aV rfl rfl rfl ⟨rfl,T⟩))
end
section
open Go.RowKit
set_option maxRecDepth 100000
noncomputable def rY (xs8:List Int):Option (List Int):=
  some xs8
noncomputable def wI (d0:List Int) (eU:List Int→Int→Option (List Int)) (K1:List Int→Option (List Int)) (oD:List Int) (i11:Int):Option (List Int):=
  (bif (decide (i11 < (d0.length:Int))) then ((fC d0 i11).bind fun x14=>((fC oD i11).bind fun x25=>(eU (kX oD i11 x14) (i11+1)))) else (K1 oD))
noncomputable def kG (d0:List Int) (K1:List Int→Option (List Int)):Nat→List Int→Int→Option (List Int)
  |0,_,_=>none
  |g+1,oD,i11=>wI d0 (kG d0 K1 g) K1 oD i11
noncomputable def uO (d0:List Int):Option (List Int):=
  ((yB (d0.length≤4294967296)).bind fun _=>(kG d0 rY (d0.length+1) (List.replicate d0.length 0) 0))
set_option maxHeartbeats 2000000 in
theorem He (d0:List Int) (r:List Int) (hm:uO d0=some r) (v0:Value) (w:World) (hv0:Sl nR 1 w v0 d0) :
    Calls Tryz.prog 54 #[v0] w fun e w'=>(∃(v0:Value),e=.returned (v0)∧aA 2 encI 1 w' w.heap.size v0 r)∧Below w.heap.size w w':=by
  obtain ⟨Bc,na0,ca0,rfl,ha0,GN⟩:=hv0;obtain ⟨rfl,qa0⟩:=bI ha0 GN;have T:=Below.refl w.heap.size w;unfold uO at hm;refine enter 22 Tryz.func54 rfl rfl rfl ?_;intro f hf;have s0:f 0=.slice Bc d0.length ca0:=hf 0 _ rfl;refine wp_seq<|au rfl<|aW (.slice none 0 0)<|RQ.nil<|ah<|wp_seq<|bF rfl<|kE s0<|aLz rfl ?_;obtain ⟨_,m1,hm⟩:=bnd hm;have hk2:=h_ m1;refine RL.make (enc:=encI) (z0:=0) (n:=d0.length) Gs (by decide) rfl rfl rfl rfl hk2 (fun w3 G4 hb5 LP=>?_);replace G4:=aA.mono G4 T.size;have T:=Tt T hb5;refine Ez (.slice (some ⟨w.heap.size,0,none⟩) d0.length d0.length)<|RL.nil<|ah<|wp_seq<|wp_seq<|au rfl<|aW (.int .i64 0)<|RQ.nil<|ah<|wp_block ?_;obtain ⟨K1,hK1,hm⟩ :∃K,K=rY∧kG d0 K (d0.length+1) (List.replicate d0.length 0) 0=some r:=⟨_,rfl,hm⟩;refine dG (fun g f w'=>∃(oD:List Int) (i11:Int) (Hf:Value),f 0=.slice Bc d0.length ca0∧f 3=Hf∧aA 2 encI 1 w' w.heap.size Hf oD∧f 4=.int .i64 i11∧0≤i11∧Below w.heap.size w w'∧kG d0 K1 g oD i11=some r) 0 (fun f w'=>∃(xs8:List Int) (Uf:Value),f 3=Uf∧aA 2 encI 1 w' w.heap.size Uf xs8∧Below w.heap.size w w'∧rY xs8=some r) (d0.length+1) ⟨(List.replicate d0.length 0),0,(.slice (some ⟨w.heap.size,0,none⟩) d0.length d0.length),s0,rfl,G4,rfl,(by omega),T,hm⟩ ?_ ?_
  ·rintro f w9 ⟨xs8,Uf,Bg,ag3,T,hm⟩;unfold rY at hm;refine dW (ah ?_);refine wp_seq<|au rfl<|aT Bg<|aW Uf<|RQ.nil<|ah<|wp_ret ?_;obtain rfl:=sj hm;exact (aV rfl rfl rfl ⟨⟨_,rfl,ag3⟩,T⟩)
  rintro g f w12 ⟨oD,i11,Hf,dQ,jE,jc,Dt,apU,T,hm⟩;rcases g with _|g
  ·simp only [kG] at hm; cases hm
  obtain ⟨eU,d_,hm⟩ :∃z,z=kG d0 K1 g∧wI d0 z K1 oD i11=some r:=⟨_,rfl,hm⟩;unfold wI at hm;refine wp_seq<|wp_seq<|au rfl<|aT Dt<|aT dQ<|yH rfl<|iq (.bool (decide (i11 < (d0.length:Int))))<|RQ.nil<|ah ?_;rcases aB (decide (i11 < (d0.length:Int))) with c13|c13
  ·replace hm:=cF c13 hm;have ag4:=of_decide_eq_false c13;refine iH c13<|wp_exit ?_;exact (bQ (bQ (iW ⟨_,rfl,⟨oD,(Hf),jE,jc,T,(by rw [hK1] at hm; exact hm)⟩⟩)))
  replace hm:=cT c13 hm;have ag4:=of_decide_eq_true c13;refine ig c13<|wp_skip<|ah<|wp_seq<|wp_block<|bF rfl<|kE jE<|kE Dt<|kE dQ<|kE Dt ?_;obtain ⟨x14,aas,hm⟩:=bnd hm;obtain ⟨k15,asW,asX,aas⟩:=aU aas;obtain ⟨b21,o22,rfl,aAk⟩:=ha0.addr (by omega);obtain ⟨aKw,NK,PK⟩:=ha0.el aas;have asY:=NK;obtain rfl:=NK;refine RL.y rfl (Y.indexAddr (m:=k15) (sz:=1) rfl rfl asW asX (by kernel_rfl))<|I7 (.int .i64 x14) rfl (cu (cellT T (PK 0 _ rfl))) ?_;obtain ⟨A23,c24,rfl⟩:=aA.form jc;have a8X:=aA.bound jc;obtain ⟨x25,hx27,hm⟩:=bnd hm;obtain ⟨k26,anv,asZ,hx27⟩:=aU hx27;obtain ⟨b30,rfl⟩:=aA.GU jc (by omega);refine RL.y rfl (Y.indexAddr (m:=k26) (sz:=1) rfl rfl anv asZ (by kernel_rfl)) ?_;refine RL.ano (k:=k26) (a:=x14) fI rfl rfl rfl jc asZ rfl (by kernel_rfl) (fun w31 G32 anw=>?_);have apV:=anw.size;have T:=T.trans (anw.below (by intro b hb; simp at hb; subst hb; exact aA.jB jc _ rfl));have G32:aA 2 encI 1 w31 w.heap.size (.slice (some ⟨b30,0,none⟩) oD.length c24) (kX oD i11 x14):=by rw [yc anv]; exact G32
  have hx34:(kX oD i11 x14)[k26]? = some x14:=Ub anv asZ;have aPN:=lt_of_some hx34;refine RL.nil ?_;refine eF (ah ?_);refine au rfl<|aT Dt<|RQ.y rfl (Y.dS rfl rfl (bn (m:=i11) (by omega)))<|aW (.int .i64 (i11+1))<|RQ.nil ?_;exact (ah ⟨g,_,Nat.lt_succ_self _,rfl,⟨(kX oD i11 x14),(i11+1),(.slice (some ⟨b30,0,none⟩) oD.length c24),dQ,jE,G32,rfl,(by omega),T,(by rw [← d_]; exact hm)⟩⟩)
end
section
open Go.RowKit
def ag5 (n:Int):Bool:=decide (0≤n) && decide (n≤23)
def anx (n:Int):Bool:=decide (-2147483648≤n) && decide (n≤2147483647)
def av9 (n:Int):Bool:=decide (1≤n) && decide (n≤6)
end
section
open Go.RowKit
theorem av_ (n:Int):uq n=some (ag5 n):=by
 unfold uq ag5
 simp only [Bool.cond_eq_ite,decide_eq_true_eq]
 by_cases h:0≤n <;> simp [h] <;> omega
theorem awc (n:Int):Bl n=some (anx n):=by
 unfold Bl anx
 simp only [Bool.cond_eq_ite,decide_eq_true_eq]
 by_cases h:-2147483648≤n <;> simp [h]
theorem apW (n:Int):lK n=some (av9 n):=by
 unfold lK av9
 simp only [Bool.cond_eq_ite,decide_eq_true_eq]
 by_cases h:1≤n <;> simp [h]
theorem apX (d:List Int) (p:Int→Option Bool) (q:Int→Bool) (h :∀x∈d,p x=some (q x)) :∃i,jO d p=some i∧decide (i ≥ 0)=d.any q:=by
 unfold jO
 by_cases ha :∃k,k < d.length∧∃x,d[k]? = some x∧q x=true
 ·obtain ⟨m,⟨hm,x,hx,hq⟩,hl⟩ :∃m,(m < d.length∧∃x,d[m]? = some x∧q x=true)∧∀k,k < m→∀y,d[k]? = some y→q y=false:=by
   obtain ⟨k0,hk0⟩:=ha
   induction k0 using Nat.strongRecOn with
   |_ k0 ih=>
    by_cases hh :∃k,k < k0∧k < d.length∧∃x,d[k]? = some x∧q x=true
    ·obtain ⟨k,hk,hk1⟩:=hh; exact ih k hk hk1
    ·exact ⟨k0,hk0,fun k hk y hy=>by
      cases hq:q y with
      |false=>rfl
      |true=>exact absurd ⟨k,hk,lt_of_some hy,y,hy,hq⟩ hh⟩
  refine ⟨m,?_,?_⟩
  ·refine av6 (n:=m) (fun g k hk=>?_) (fun g=>?_) _ (by omega)
   ·have hkl:k < d.length:=by omega
    have hy:=List.getElem?_eq_getElem hkl
    simp [dO,fK,hkl,jY hkl,h _ (List.getElem_mem hkl),hl k hk _ hy]
   ·have hmem:=List.mem_of_getElem? hx
    simp [dO,fK,hm,gG hx,h _ hmem,hq]
  ·have:d.any q=true:=List.any_eq_true.2 ⟨x,List.mem_of_getElem? hx,hq⟩
   rw [this]; simp
 ·refine ⟨-1,?_,?_⟩
  ·refine av6 (n:=d.length) (fun g k hk=>?_) (fun g=>?_) _ (by omega)
   ·have hq:q d[k] = false:=by
     cases hq:q d[k] with
     |false=>rfl
     |true=>exact absurd ⟨k,hk,_,List.getElem?_eq_getElem hk,hq⟩ ha
    simp [dO,fK,hk,jY hk,h _ (List.getElem_mem hk),hq]
   ·simp [dO,fK,iY]
  ·have:d.any q=false:=List.any_eq_false.2 fun x hx hq=>by
    obtain ⟨k,hk,rfl⟩:=List.getElem_of_mem hx
    exact ha ⟨k,hk,_,List.getElem?_eq_getElem hk,hq⟩
   rw [this]; simp
theorem Hg (d:List Int) (p:Int→Option Bool) (q:Int→Bool) (h :∀x∈d,p x=some (q x)):bg d p=some (d.any q):=by
 obtain ⟨i,h1,h2⟩:=apX d p q h
 simp -implicitDefEqProofs only [bg,h1,Option.bind_some,h2]
theorem Hl {α:Type} {f:α→Nat} {xs:List α} {x:α} (h:x∈xs):f x≤(xs.map f).sum:=by
 induction xs with
 |nil=>cases h
 |cons y ys ih=>
  rcases List.mem_cons.1 h with rfl|h
  ·simp
  ·have:=ih h; simp; omega
end
section
open Go.RowKit
theorem aAl {α:Type} {xs:List α} {z:α} {k:Nat} (hk:k < xs.length):kX (xs.take k ++ List.replicate (xs.length - k) z) (k:Int) xs[k] = xs.take (k+1) ++ List.replicate (xs.length - (k+1)) z:=by
 rw [apQ]
 obtain ⟨m,hm⟩ :∃m,xs.length - k=m+1:=⟨xs.length - k - 1,by omega⟩
 have hm2:xs.length - (k+1)=m:=by omega
 have hl:(xs.take k).length=k:=by simp; omega
 rw [hm,hm2,List.replicate_succ,List.set_append_right _ _ (by omega),hl,Nat.sub_self,List.set_cons_zero,List.take_succ_eq_append_getElem hk,List.append_assoc]
 rfl
theorem aAm {α:Type} {xs:List α} {z:α} {k:Nat} (hk:k < xs.length):fC (xs.take k ++ List.replicate (xs.length - k) z) (k:Int)=some z:=by
 have hl:(xs.take k).length=k:=by simp; omega
 refine gG ?_
 rw [List.getElem?_append_right (by omega),hl,Nat.sub_self,List.getElem?_replicate]
 simp; omega
theorem awd {α ρ:Type} {L:Nat→List α→Int→Option ρ} {xs:List α} {z:α} {K:List α→Option ρ} (h :∀g (k:Nat) acc (hk:k < xs.length),fC acc (k:Int)=some z→L (g+1) acc (k:Int)=L g (kX acc (k:Int) xs[k]) ((k:Int)+1)) (he :∀g acc,L (g+1) acc (xs.length:Int)=K acc) :
  L (xs.length+1) (List.replicate xs.length z) 0=K xs:=by
 have:=axy (L:=fun g (s:List α × Int)=>L g s.1 s.2) (st:=fun k=>(xs.take k ++ List.replicate (xs.length - k) z,(k:Int))) (n:=xs.length) (r:=K xs)
  (fun g k hk=>by
   simp only
   rw [h g k _ hk (aAm hk),aAl hk]
   simp only [Int.natCast_add,Int.cast_ofNat_Int])
  (fun g=>by simp only; rw [he]; simp) (xs.length+1) (Nat.lt_succ_self _)
 simpa using this
theorem eqI {α ρ:Type} [DecidableEq α] {L:Nat→Int→Option ρ} {xs ys:List α} {no yes:Option ρ} (hl:xs.length=ys.length) (h :∀g (k:Nat) (hx:k < xs.length) (hy:k < ys.length),L (g+1) (k:Int)=if xs[k] = ys[k] then L g ((k:Int)+1) else no) (he :∀g,L (g+1) (xs.length:Int)=yes) (g:Nat) (hg:xs.length < g) :
  L g 0=if xs=ys then yes else no:=by
 have key:=aXv (L:=L) (n:=xs.length) (p:=fun k=>xs[k]? = ys[k]?) (no:=no) (K:=yes)
  (fun g k hk hp=>by
   have hy:k < ys.length:=by omega
   rw [h g k hk hy,if_pos]
   rw [List.getElem?_eq_getElem hk,List.getElem?_eq_getElem hy] at hp
   injection hp)
  (fun g k hk hp=>by
   have hy:k < ys.length:=by omega
   rw [h g k hk hy,if_neg]
   intro e
   rw [List.getElem?_eq_getElem hk,List.getElem?_eq_getElem hy,e] at hp
   exact hp rfl) he g hg
 rcases key with ⟨h1,h2⟩|⟨h1,h2⟩
 ·have e:xs=ys:=List.ext_getElem? fun k=>by
   by_cases hk:k < xs.length
   ·exact h1 k hk
   ·rw [List.getElem?_eq_none (by omega),List.getElem?_eq_none (by omega)]
  rw [if_pos e,h2]
 ·rw [if_neg,h2]
  intro e
  exact h1 fun k _=>by rw [e]
end
section
open Go.RowKit
theorem Ug {n m:Nat} : ((n:Int) != (m:Int)) = !decide (n=m):=by
 by_cases h:n=m
 ·subst h; simp
 ·simp [h]; omega
theorem awe {p:Prop} [Decidable p] : (if p then some true else some false:Option Bool)=some (decide p):=by
 by_cases h:p <;> simp [h]
theorem NM {α:Type} [DecidableEq α] {xs ys:List α} (h:¬ xs.length=ys.length):decide (xs=ys)=false:=decide_eq_false fun e=>h (by rw [e])
theorem aGn (xs ys:List Int):mG xs ys=some (decide (xs=ys)):=by
 unfold mG
 rw [Ug]
 by_cases hl:xs.length=ys.length
 ·rw [decide_eq_true hl,Bool.not_true,cond_false,← awe]
  exact eqI hl (fun g k hx hy=>by
   simp -implicitDefEqProofs only [fQ,kD,LD hx,cond_true,gG (List.getElem?_eq_getElem hx),gG (List.getElem?_eq_getElem hy),Option.bind_some]
   by_cases h:xs[k] = ys[k]
   ·rw [if_pos h,show (xs[k] != ys[k])=false by simpa using h,cond_false]
   ·rw [if_neg h,show (xs[k] != ys[k])=true by simpa using h,cond_true])
   (fun g=>by simp -implicitDefEqProofs only [fQ,kD,LG,cond_false,kC]) _ (Nat.lt_succ_self _)
 ·rw [decide_eq_false hl,Bool.not_false,cond_true,NM hl]
end
section
open Go.RowKit
theorem YJ {n:Nat} (h:n≤maxLen):n≤9223372036854775807:=by unfold maxLen at h; omega
theorem yR {left:Int} {a b:Nat} : (if TV left a < 0 then -1 else TV (TV left a) b)=TV left (a+b):=by
 unfold TV
 by_cases h:left - a < 0
 ·rw [if_pos h,if_pos (by decide),if_pos (by omega)]
 ·rw [if_neg h,if_neg h]
  by_cases h2:left - a - b < 0
  ·rw [if_pos h2,if_pos (by omega)]
  ·rw [if_neg h2,if_neg (by omega)]; omega
/-- A loop that takes sizes away. -/
theorem aKx {α:Type} {L:Nat→Int→Int→Option Int} {d:List α} {s:α→Nat} {ok:α→Prop} (h :∀g (k:Nat) x left,d[k]? = some x→0≤left→left≤1048576→L (g+1) left (k:Int)=bif decide (TV left (s x) < 0) then some (-1) else L g (TV left (s x)) ((k:Int)+1)) (he :∀g left,L (g+1) left (d.length:Int)=some left) :
  ∀(m k g:Nat) (left:Int),k+m=d.length→m < g→0≤left→left≤1048576→L g left (k:Int)=some (TV left ((d.drop k).map s).sum):=by
 intro m
 induction m with
 |zero=>
  intro k g left hk hg h0 h1
  obtain ⟨g,rfl⟩ :∃g',g=g'+1:=⟨g - 1,by omega⟩
  rw [show k=d.length by omega,he,List.drop_length]
  simp [TV]; omega
 |succ m ih=>
  intro k g left hk hg h0 h1
  obtain ⟨g,rfl⟩ :∃g',g=g'+1:=⟨g - 1,by omega⟩
  have hx:=List.getElem?_eq_getElem (show k < d.length by omega)
  rw [h g k _ left hx h0 h1,List.drop_eq_getElem_cons (show k < d.length by omega),List.map_cons,List.sum_cons,← yR]
  by_cases hn:TV left (s d[k]) < 0
  ·rw [decide_eq_true hn,cond_true,if_pos hn]
  ·rw [decide_eq_false hn,cond_false,if_neg hn]
   have hle:TV left (s d[k])≤1048576:=by unfold TV; split <;> omega
   exact ih (k+1) g _ (by omega) (by omega) (by omega) hle
/-- A loop that asks whether two rows are equal, element by element. -/
theorem awf {α:Type} [DecidableEq α] {L:Nat→Int→Option Bool} {xs ys:List α} {q:α→α→Option Bool} (hl:xs.length=ys.length) (hq :∀x∈xs,∀y,q x y=some (decide (x=y)))
  (h :∀g (k:Nat) (hx:k < xs.length) (hy:k < ys.length),L (g+1) (k:Int)=(q xs[k] ys[k]).bind fun b=>bif b then L g ((k:Int)+1) else some false) (he :∀g,L (g+1) (xs.length:Int)=some true):L (xs.length+1) 0=some (decide (xs=ys)):=by
 rw [← awe]
 refine eqI hl (fun g k hx hy=>?_) he _ (Nat.lt_succ_self _)
 rw [h g k hx hy,hq _ (List.getElem_mem hx),Option.bind_some]
 by_cases h2:xs[k] = ys[k]
 ·rw [if_pos h2,decide_eq_true h2,cond_true]
 ·rw [if_neg h2,decide_eq_false h2,cond_false]
end
section
open Go.RowKit Go.Maps
section
variable {P : Program} {C : World → Prop} {f : Nat → Value} {d : Option Tmp} {ty : TypeId} {pos : String} {af : Array Edge} {g : Option (Nat × Bool)} {x y : Operand} {t : TypeId} {A Av : Option Addr} {n c : Nat}
theorem Y.aKy {l sz N:Nat} {k:IntKind} {j:Int} (hx:ev f x=.slice A N c) (hy:ev f y=.int k j) (hj:j=(l:Int)) (hl:l≤N) (hc:N≤c) (ht:amj P t=some sz) (eA:(if c=0 then A else A.map (·.add (0 * sz)))=Av) :
  Y P C f ⟨d,.slice t x none (some y) none,ty,pos,af,g⟩ (.slice Av l c):=fun w _=>by
 subst hj
 unfold amj at ht
 split at ht
 ·rename_i e hu
  cases agV:P.info? e with
  |none=>rw [agV] at ht; cases ht
  |some inf=>
   rw [agV] at ht
   simp at ht
   subst ht
   have he:P.elem t=e:=by simp [Program.elem,hu]
   have hu':P.underlying t=some (.slice (P.elem t)):=by rw [he]; exact hu
   have:=run_slice_h (P:=P) (w:=w) t A N c hu' k (l:Int) (by omega) (by omega)
   simp only [Nat.zero_mul] at eA
   simp [execOp,hx,hy,run_sliceAt_slice,hu',this,he,sizeOf,typeInfo,agV,sliced,eA]
 ·cases ht
end
end
section
open Go.RowKit
/-- The first index at which p holds, or -1. -/
def aGo {α:Type} (d:List α) (p:α→Bool):Int:=match d.findIdx? p with|some i=>(i:Int)|none=>-1
theorem aPO {α:Type} {d:List α} {L:Nat→Int→Option Int} {p:α→Bool} (h :∀g (k:Nat) (hk:k < d.length),L (g+1) (k:Int)=bif p d[k] then some (k:Int) else L g ((k:Int)+1)) (he :∀g,L (g+1) (d.length:Int)=some (-1)) (g:Nat) (hg:d.length < g):L g 0=some (aGo d p):=by
 have key :∀(m k g:Nat),k+m=d.length→m < g→L g (k:Int)=some (match (d.drop k).findIdx? p with|some i=>((k+i:Nat):Int)|none=>-1):=by
  intro m
  induction m with
  |zero=>
   intro k g hk hg
   obtain ⟨g,rfl⟩ :∃g',g=g'+1:=⟨g - 1,by omega⟩
   obtain rfl:k=d.length:=by omega
   rw [he,List.drop_length]; rfl
  |succ m ih=>
   intro k g hk hg
   obtain ⟨g,rfl⟩ :∃g',g=g'+1:=⟨g - 1,by omega⟩
   have hl:k < d.length:=by omega
   rw [h g k hl,List.drop_eq_getElem_cons hl,List.findIdx?_cons]
   cases hp:p d[k] with
   |true=>simp
   |false=>
    have:=ih (k+1) g (by omega) (by omega)
    simp only [cond_false,Bool.false_eq_true,if_false]
    rw [show ((k:Int)+1)=((k+1:Nat):Int) by omega,this]
    cases (d.drop (k+1)).findIdx? p with
    |none=>rfl
    |some i=>
     show some (((k+1+i:Nat):Int))=some (((k+(i+1):Nat):Int))
     congr 1; omega
 have:=key d.length 0 g (by omega) hg
 rw [List.drop_zero] at this
 refine this.trans ?_
 unfold aGo
 cases d.findIdx? p <;> simp
theorem awg {α:Type} (d:List α) (p:α→Bool):decide (aGo d p ≥ 0)=d.any p:=by
 unfold aGo
 cases h:d.findIdx? p with
 |none=>
  have:=List.findIdx?_eq_none_iff.1 h
  rw [List.any_eq_false.2 (fun x hx=>by simp [this x hx])]
  rfl
 |some i=>
  have h2:d.any p=true:=by
   have:=List.findIdx?_eq_some_iff_getElem.1 h
   obtain ⟨hl,hp,_⟩:=this
   exact List.any_eq_true.2 ⟨d[i],List.getElem_mem _,hp⟩
  rw [h2]; simp
end
section
open Go.RowKit
theorem take_snoc {α:Type} {ks:List α} {k:Nat} (hk:k < ks.length):ks.take (k+1)=ks.take k ++ [ks[k]]:=by
 rw [List.take_add_one,List.getElem?_eq_getElem hk]; rfl
theorem aPP {α:Sort _} {p q:Prop} [Decidable p] [Decidable q] {a b:α} (h:p↔q):(if p then a else b)=if q then a else b:=by
 by_cases hp:p
 ·rw [if_pos hp,if_pos (h.1 hp)]
 ·rw [if_neg hp,if_neg (fun hq=>hp (h.2 hq))]
end
section
open Go.RowKit
section
variable {v1 v2 v : Value} {w w' w2 : World} {b k : Nat} {bs : List Nat}
theorem G_.aGp (K:G_ v1 v2 w w') (hb:Below w.heap.size w' w2):G_ v1 v2 w w2:=⟨Nat.le_trans K.size hb.size,fun b h1 h2 h3=>(hb.block b h1).trans (K.block b h1 h2 h3)⟩
theorem Below.weak {n m:Nat} (h:n≤m) (hb:Below m w w'):Below n w w':=hb.mono h
end
section
variable {α : Type} {R : Rd α} {O : Ow α} {enc : α → List Value} {sz lo : Nat} {w : World} {e : TypeId} {xs : List α} {A Av : Option Addr} {n c k : Nat}
theorem QA (hl :∀x,(enc x).length=sz) :∀(xs:List α) (k:Nat),(xs.flatMap enc).take (k * sz)=(xs.take k).flatMap enc
 |[],k=>by simp
 |x :: xs,0=>by simp
 |x :: xs,k+1=>by
  rw [List.flatMap_cons,List.take_succ_cons,List.flatMap_cons,← QA hl xs k,List.take_append,hl,List.take_of_length_le (by rw [hl]; exact Nat.le_mul_of_pos_left _ (by omega))]
  congr 2
  rw [Nat.add_mul,Nat.one_mul,Nat.add_sub_cancel]
theorem aA.aPQ (hl :∀x,(enc x).length=sz) (h:aA e enc sz w lo (.slice A n c) xs) (hk:k≤xs.length) (eA:(if c=0 then A else A.map (·.add (0 * sz)))=Av):Av=A∧n≤c∧aA e enc sz w lo (.slice A (xs.take k).length c) (xs.take k):=by
 have hkl:(xs.take k).length=k:=by rw [List.length_take]; omega
 rcases h.2 with ⟨hv,h0⟩|⟨g,cap,cur,hv,hg,hh,h1,h2,h3,h4⟩
 ·injection hv with e1 e2 e3
  subst e1 e2 e3
  have hx:xs=[]:=List.eq_nil_of_length_eq_zero h0
  subst hx
  refine ⟨by rw [← eA]; rfl,Nat.le_refl _,?_⟩
  rw [List.take_nil]
  exact h
 ·injection hv with e1 e2 e3
  subst e1 e3
  refine ⟨by rw [← eA]; split <;> simp [Addr.add],by omega,⟨?_,.inr ⟨g,c,cur,rfl,hg,hh,by rw [hkl]; omega,h2,h3,?_⟩⟩⟩
  ·rw [hkl,← QA hl,List.length_take,h.1]
   exact Nat.min_eq_left (Nat.mul_le_mul_right _ hk)
  ·rw [hkl,← QA hl,← h4,List.take_take,Nat.min_eq_left (Nat.mul_le_mul_right _ hk)]
theorem tkI {i:Int} (h0:0≤i) (h1:i.toNat≤xs.length):i=((xs.take i.toNat).length:Int):=by rw [List.length_take,Nat.min_eq_left h1]; omega
theorem aXA {m:Nat} : (xs.take m).length≤xs.length:=by rw [List.length_take]; omega
end
end
section
open Go.RowKit
set_option maxRecDepth 100000
noncomputable def BP (d0:Int):Option (Int × Int × Int × Int):=
  (bif (d0==1) then some (0,0,0,0) else (bif (d0==2) then some (0,0,0,0) else (bif (d0==11) then some (0,0,0,0) else (bif (d0==3) then some (2,2,0,0) else (bif (d0==5) then some (2,2,0,0) else (bif (d0==7) then some (2,2,0,0) else (bif (d0==4) then some (1,1,0,0) else (bif (d0==6) then some (1,1,0,0) else (bif (d0==8) then some (0,3,0,0) else (bif (d0==9) then some (1,1,1,4) else (bif (d0==10) then some (1,1,2,2) else some (0,(-1),0,0))))))))))))
set_option maxHeartbeats 2000000 in
theorem abd (d0:Int) (r:Int × Int × Int × Int) (hm:BP d0=some r)  (w:World)  :
    Calls Tryz.prog 117 #[.int .i64 d0] w fun e w'=>e=.returned (.tuple #[.int .i64 r.1,.int .i64 r.2.1,.int .i64 r.2.2.1,.int .i64 r.2.2.2])∧Below w.heap.size w w':=by
  have T:=Below.refl w.heap.size w;unfold BP at hm;refine enter 24 Tryz.func117 rfl rfl rfl ?_;intro f hf;have s0:f 0=.int .i64 d0:=hf 0 _ rfl;refine wp_seq<|au rfl ?_;iterate 4 refine aW (.int .i64 0) ?_
  refine RQ.nil<|ah<|wp_seq<|wp_seq<|au rfl<|aT s0<|RQ.nil<|ah<|wp_block<|wp_seq<|wp_seq<|au rfl<|iq (.bool (d0==1))<|aW (.bool (d0==1))<|RQ.nil<|ah ?_;rcases aB (d0==1) with c1|c1
  ·replace hm:=cF c1 hm;refine iH c1<|wp_seq<|au rfl<|iq (.bool (d0==2))<|aW (.bool (d0==2))<|RQ.nil<|ah ?_;rcases aB (d0==2) with c2|c2
   ·replace hm:=cF c2 hm;refine iH c2<|au rfl<|iq (.bool (d0==11))<|aW (.bool (d0==11))<|RQ.nil<|ah ?_;rcases aB (d0==11) with c3|c3
    ·replace hm:=cF c3 hm;refine iH c3<|wp_seq<|wp_seq<|au rfl<|iq (.bool (d0==3))<|aW (.bool (d0==3))<|RQ.nil<|ah ?_;rcases aB (d0==3) with c4|c4
     ·replace hm:=cF c4 hm;refine iH c4<|wp_seq<|au rfl<|iq (.bool (d0==5))<|aW (.bool (d0==5))<|RQ.nil<|ah ?_;rcases aB (d0==5) with c5|c5
      ·replace hm:=cF c5 hm;refine iH c5<|au rfl<|iq (.bool (d0==7))<|aW (.bool (d0==7))<|RQ.nil<|ah ?_;rcases aB (d0==7) with c6|c6
       ·replace hm:=cF c6 hm;refine iH c6<|wp_seq<|wp_seq<|au rfl<|iq (.bool (d0==4))<|aW (.bool (d0==4))<|RQ.nil<|ah ?_;rcases aB (d0==4) with c7|c7
        ·replace hm:=cF c7 hm;refine iH c7<|au rfl<|iq (.bool (d0==6))<|aW (.bool (d0==6))<|RQ.nil<|ah ?_;rcases aB (d0==6) with c8|c8
         ·replace hm:=cF c8 hm;refine iH c8<|wp_seq<|au rfl<|iq (.bool (d0==8))<|aW (.bool (d0==8))<|RQ.nil<|ah ?_;rcases aB (d0==8) with c9|c9
          ·replace hm:=cF c9 hm;refine iH c9<|wp_seq<|au rfl<|iq (.bool (d0==9))<|aW (.bool (d0==9))<|RQ.nil<|ah ?_;rcases aB (d0==9) with c10|c10
           ·replace hm:=cF c10 hm;refine iH c10<|wp_seq<|au rfl<|iq (.bool (d0==10))<|aW (.bool (d0==10))<|RQ.nil<|ah ?_;rcases aB (d0==10) with c11|c11
            ·replace hm:=cF c11 hm;refine iH c11<|wp_skip ?_;refine eF (ah ?_);refine wp_seq<|au rfl<|aW (.int .i64 0)<|aW (.int .i64 (-1))<|aW (.int .i64 0)<|aW (.int .i64 0)<|RQ.nil<|ah<|wp_ret ?_;obtain rfl:=sj hm;exact (afW rfl rfl rfl rfl rfl rfl ⟨rfl,T⟩)
            replace hm:=cT c11 hm;refine ig c11<|wp_seq<|au rfl<|aW (.int .i64 1)<|aW (.int .i64 1)<|aW (.int .i64 2)<|aW (.int .i64 2)<|RQ.nil<|ah<|wp_ret ?_;obtain rfl:=sj hm;exact (bC (aF (afW rfl rfl rfl rfl rfl rfl ⟨rfl,T⟩)))
           replace hm:=cT c10 hm;refine ig c10<|wp_seq<|au rfl ?_;iterate 3 refine aW (.int .i64 1) ?_
           refine aW (.int .i64 4)<|RQ.nil<|ah<|wp_ret ?_;obtain rfl:=sj hm;exact (bC (aF (afW rfl rfl rfl rfl rfl rfl ⟨rfl,T⟩)))
          replace hm:=cT c9 hm;refine ig c9<|wp_seq<|au rfl<|aW (.int .i64 0)<|aW (.int .i64 3)<|aW (.int .i64 0)<|aW (.int .i64 0)<|RQ.nil<|ah<|wp_ret ?_;obtain rfl:=sj hm;exact (bC (aF (afW rfl rfl rfl rfl rfl rfl ⟨rfl,T⟩)))
         replace hm:=cT c8 hm;refine ig c8<|wp_seq<|au rfl<|aW (.int .i64 1)<|aW (.int .i64 1)<|aW (.int .i64 0)<|aW (.int .i64 0)<|RQ.nil<|ah<|wp_ret ?_;obtain rfl:=sj hm;exact (bC (aF (afW rfl rfl rfl rfl rfl rfl ⟨rfl,T⟩)))
        replace hm:=cT c7 hm;refine ig c7<|wp_skip<|ah<|ig c7<|wp_seq<|au rfl<|aW (.int .i64 1)<|aW (.int .i64 1)<|aW (.int .i64 0)<|aW (.int .i64 0)<|RQ.nil<|ah<|wp_ret ?_;obtain rfl:=sj hm;exact (bC (aF (afW rfl rfl rfl rfl rfl rfl ⟨rfl,T⟩)))
       replace hm:=cT c6 hm;refine ig c6<|wp_seq<|au rfl<|aW (.int .i64 2)<|aW (.int .i64 2)<|aW (.int .i64 0)<|aW (.int .i64 0)<|RQ.nil<|ah<|wp_ret ?_;obtain rfl:=sj hm;exact (bC (aF (afW rfl rfl rfl rfl rfl rfl ⟨rfl,T⟩)))
      replace hm:=cT c5 hm;refine ig c5<|wp_skip<|ah<|ig c5<|wp_seq<|au rfl<|aW (.int .i64 2)<|aW (.int .i64 2)<|aW (.int .i64 0)<|aW (.int .i64 0)<|RQ.nil<|ah<|wp_ret ?_;obtain rfl:=sj hm;exact (bC (aF (afW rfl rfl rfl rfl rfl rfl ⟨rfl,T⟩)))
     replace hm:=cT c4 hm;refine ig c4<|wp_skip<|ah<|ig c4<|wp_seq<|au rfl<|aW (.int .i64 2)<|aW (.int .i64 2)<|aW (.int .i64 0)<|aW (.int .i64 0)<|RQ.nil<|ah<|wp_ret ?_;obtain rfl:=sj hm;exact (bC (aF (afW rfl rfl rfl rfl rfl rfl ⟨rfl,T⟩)))
    replace hm:=cT c3 hm;refine ig c3<|wp_seq<|au rfl ?_;iterate 4 refine aW (.int .i64 0) ?_
    refine RQ.nil<|ah<|wp_ret ?_;obtain rfl:=sj hm;exact (bC (aF (afW rfl rfl rfl rfl rfl rfl ⟨rfl,T⟩)))
   replace hm:=cT c2 hm;refine ig c2<|wp_skip<|ah<|ig c2<|wp_seq<|au rfl ?_;iterate 4 refine aW (.int .i64 0) ?_
   refine RQ.nil<|ah<|wp_ret ?_;obtain rfl:=sj hm;exact (bC (aF (afW rfl rfl rfl rfl rfl rfl ⟨rfl,T⟩)))
  replace hm:=cT c1 hm;refine ig c1<|wp_skip<|ah<|ig c1<|wp_seq<|au rfl ?_;iterate 4 refine aW (.int .i64 0) ?_
  refine RQ.nil<|ah<|wp_ret ?_;obtain rfl:=sj hm;exact (bC (aF (afW rfl rfl rfl rfl rfl rfl ⟨rfl,T⟩)))
noncomputable def uP (d0:ak):Option Bool:=
  (bif (d0.kind==1) then some (ni d0.value 0 255) else (bif (d0.kind==2) then some (ni d0.value (-2147483648) 2147483647) else (bif (d0.kind==3) then some (ni d0.value 1 6) else (bif (d0.kind==8) then some (ni d0.value 0 3) else (bif (d0.kind==11) then some (ni d0.value 0 23) else some (d0.value==0))))))
set_option maxHeartbeats 2000000 in
theorem abe (d0:ak) (r:Bool) (hm:uP d0=some r) (v0:Value) (w:World) (hv0:Pt bf w v0 d0) :
    Calls Tryz.prog 118 #[v0] w fun e w'=>e=.returned (.bool r)∧Below w.heap.size w w':=by
  obtain ⟨qg,qh,lg,rfl,qm,jR,eu⟩:=hv0;have qB:=jR;obtain ⟨A1,n1,c1,A2,n2,c2,rfl,⟨h1,r1⟩,⟨h2,r2⟩⟩:=(bG jR);obtain ⟨rfl,q1⟩:=bI h1 r1;obtain ⟨rfl,q2⟩:=bI h2 r2;have T:=Below.refl w.heap.size w;unfold uP at hm;refine enter 47 Tryz.func118 rfl rfl rfl ?_;intro f hf;have s0:f 0=.pointer (some ⟨qg,qh,none⟩):=hf 0 _ rfl;refine wp_seq<|au rfl<|aW (.bool false)<|RQ.nil<|ah<|wp_seq<|wp_seq<|au rfl<|aT s0<|Du rfl<|gy 0 rfl<|gZ (.int .i64 d0.kind) rfl (cu (cellT T (eu 0 _ rfl)))<|RQ.nil<|ah<|wp_block<|wp_seq<|au rfl<|iq (.bool (d0.kind==1))<|aW (.bool (d0.kind==1))<|RQ.nil<|ah ?_;rcases aB (d0.kind==1) with c3|c3
  ·replace hm:=cF c3 hm;refine iH c3<|wp_seq<|au rfl<|iq (.bool (d0.kind==2))<|aW (.bool (d0.kind==2))<|RQ.nil<|ah ?_;rcases aB (d0.kind==2) with c4|c4
   ·replace hm:=cF c4 hm;refine iH c4<|wp_seq<|au rfl<|iq (.bool (d0.kind==3))<|aW (.bool (d0.kind==3))<|RQ.nil<|ah ?_;rcases aB (d0.kind==3) with c5|c5
    ·replace hm:=cF c5 hm;refine iH c5<|wp_seq<|au rfl<|iq (.bool (d0.kind==8))<|aW (.bool (d0.kind==8))<|RQ.nil<|ah ?_;rcases aB (d0.kind==8) with c6|c6
     ·replace hm:=cF c6 hm;refine iH c6<|wp_seq<|au rfl<|iq (.bool (d0.kind==11))<|aW (.bool (d0.kind==11))<|RQ.nil<|ah ?_;rcases aB (d0.kind==11) with c7|c7
      ·replace hm:=cF c7 hm;refine iH c7<|wp_skip ?_;refine eF (ah ?_);refine wp_seq<|au rfl<|aT s0<|Du rfl<|gy 1 rfl<|gZ (.int .i64 d0.value) rfl (cu (cellT T (eu 1 _ rfl)))<|iq (.bool (d0.value==0))<|aW (.bool (d0.value==0))<|RQ.nil<|ah<|wp_ret ?_
       cases hm
       exact (aV rfl rfl rfl ⟨rfl,T⟩)
      replace hm:=cT c7 hm;refine ig c7<|wp_seq<|cZ rfl<|aT s0<|Du rfl<|gy 1 rfl<|gZ (.int .i64 d0.value) rfl (bV (cellT T (eu 1 _ rfl)))<|RQ.call rfl (Vu rfl rfl rfl) (by kernel_rfl) (v:=.bool (ni d0.value 0 23)) (bel (K:=fun _=>True) fun w' hb'=>(KR (mD d0.value 0 23 w')))<|aW (.bool (ni d0.value 0 23))<|RQ.nil ?_;intro w8 Zc;have T:=Tt T Zc;refine ah<|wp_ret ?_
      cases hm
      exact (bC (aF (aV rfl rfl rfl ⟨rfl,T⟩)))
     replace hm:=cT c6 hm;refine ig c6<|wp_seq<|cZ rfl<|aT s0<|Du rfl<|gy 1 rfl<|gZ (.int .i64 d0.value) rfl (bV (cellT T (eu 1 _ rfl)))<|RQ.call rfl (Vu rfl rfl rfl) (by kernel_rfl) (v:=.bool (ni d0.value 0 3)) (bel (K:=fun _=>True) fun w' hb'=>(KR (mD d0.value 0 3 w')))<|aW (.bool (ni d0.value 0 3))<|RQ.nil ?_;intro w10 Bo;have T:=Tt T Bo;refine ah<|wp_ret ?_
     cases hm
     exact (bC (aF (aV rfl rfl rfl ⟨rfl,T⟩)))
    replace hm:=cT c5 hm;refine ig c5<|wp_seq<|cZ rfl<|aT s0<|Du rfl<|gy 1 rfl<|gZ (.int .i64 d0.value) rfl (bV (cellT T (eu 1 _ rfl)))<|RQ.call rfl (Vu rfl rfl rfl) (by kernel_rfl) (v:=.bool (ni d0.value 1 6)) (bel (K:=fun _=>True) fun w' hb'=>(KR (mD d0.value 1 6 w')))<|aW (.bool (ni d0.value 1 6))<|RQ.nil ?_;intro w12 Ad;have T:=Tt T Ad;refine ah<|wp_ret ?_
    cases hm
    exact (bC (aF (aV rfl rfl rfl ⟨rfl,T⟩)))
   replace hm:=cT c4 hm;refine ig c4<|wp_seq<|cZ rfl<|aT s0<|Du rfl<|gy 1 rfl<|gZ (.int .i64 d0.value) rfl (bV (cellT T (eu 1 _ rfl)))<|RQ.call rfl (Vu rfl rfl rfl) (by kernel_rfl) (v:=.bool (ni d0.value (-2147483648) 2147483647)) (bel (K:=fun _=>True) fun w' hb'=>(KR (mD d0.value (-2147483648) 2147483647 w')))<|aW (.bool (ni d0.value (-2147483648) 2147483647))<|RQ.nil ?_;intro WQ PL;have T:=Tt T PL;refine ah<|wp_ret ?_
   cases hm
   exact (bC (aF (aV rfl rfl rfl ⟨rfl,T⟩)))
  replace hm:=cT c3 hm;refine ig c3<|wp_seq<|cZ rfl<|aT s0<|Du rfl<|gy 1 rfl<|gZ (.int .i64 d0.value) rfl (bV (cellT T (eu 1 _ rfl)))<|RQ.call rfl (Vu rfl rfl rfl) (by kernel_rfl) (v:=.bool (ni d0.value 0 255)) (bel (K:=fun _=>True) fun w' hb'=>(KR (mD d0.value 0 255 w')))<|aW (.bool (ni d0.value 0 255))<|RQ.nil ?_;intro w16 Dq;have T:=Tt T Dq;refine ah<|wp_ret ?_
  cases hm
  exact (bC (aF (aV rfl rfl rfl ⟨rfl,T⟩)))
noncomputable def wJ (i21:Int):Option Int:=
  some i21
noncomputable def FH (d0:ak) (d1:Int) (d2:Int) (self:ak→Int→Int→Option Int) (Jk:Int→Int→Option Int) (K2:Int→Option Int) (i23:Int) (i24:Int):Option Int:=
  (bif (decide (i24 < (d0.kids.length:Int))) then ((fC d0.kids i24).bind fun x27=>((ck (d1 - 1)).bind fun s38=>((ck (d2 - i23)).bind fun s39=>((self x27 s38 s39).bind fun y40=>(bif (decide (y40 < 0)) then some (-1) else ((ck (i23+y40)).bind fun s45=>(Jk s45 (i24+1)))))))) else (K2 i23))
noncomputable def oN (d0:ak) (d1:Int) (d2:Int) (self:ak→Int→Int→Option Int) (K2:Int→Option Int):Nat→Int→Int→Option Int
  |0,_,_=>none
  |g+1,i23,i24=>FH d0 d1 d2 self (oN d0 d1 d2 self K2 g) K2 i23 i24
noncomputable def oO (d0:ak) (d1:Int) (d2:Int) (self:ak→Int→Int→Option Int):Option Int:=
  (oN d0 d1 d2 self wJ (d0.kids.length+1) 1 0)
noncomputable def wK (d0:ak) (eU:Int→Option Int) (K1:Option Int) (i47:Int):Option Int:=
  (bif (decide (i47 < (d0.data.length:Int))) then ((fC d0.data i47).bind fun x50=>(bif (ni x50 0 23) then (eU (i47+1)) else some (-1))) else (K1))
noncomputable def kH (d0:ak) (K1:Option Int):Nat→Int→Option Int
  |0,_=>none
  |g+1,i47=>wK d0 (kH d0 K1 g) K1 i47
noncomputable def yS (self:ak→Int→Int→Option Int) (d0:ak) (d1:Int) (d2:Int):Option Int:=
  ((BP d0.kind).bind fun y3=>(bif (decide (d1 < 1)) then some (-1) else (bif (decide (d2 < 1)) then some (-1) else (bif (ni (d0.kids.length:Int) y3.1 y3.2.1) then (bif (ni (d0.data.length:Int) y3.2.2.1 y3.2.2.2) then ((uP d0).bind fun GI=>(bif GI then (kH d0 (oO d0 d1 d2 self) (d0.data.length+1) 0) else some (-1))) else some (-1)) else some (-1)))))
noncomputable def lq:Nat→ak→Int→Int→Option Int
  |0,_,_,_=>none
  |dJ+1,d0,d1,d2=>yS (lq dJ) d0 d1 d2
set_option maxHeartbeats 2000000 in
theorem abf :∀(dJ:Nat) (d0:ak) (d1:Int) (d2:Int) (r:Int) (hm:lq dJ d0 d1 d2=some r) (v0:Value) (w:World) (hv0:Pt bf w v0 d0),
    Calls Tryz.prog 102 #[v0,.int .i64 d1,.int .i64 d2] w fun e w'=>e=.returned (.int .i64 r)∧Below w.heap.size w w':=by
  intro dJ;induction dJ with
  |zero=>
   intro d0 d1 d2 r hm v0 w hv0
   cases hm
  |succ dJ ih=>
   intro d0 d1 d2 r hm v0 w hv0;obtain ⟨qg,qh,lg,rfl,qm,jR,eu⟩:=hv0;have qB:=jR;obtain ⟨A1,n1,c1,A2,n2,c2,rfl,⟨h1,r1⟩,⟨h2,r2⟩⟩:=(bG jR);obtain ⟨rfl,q1⟩:=bI h1 r1;obtain ⟨rfl,q2⟩:=bI h2 r2;have T:=Below.refl w.heap.size w;obtain ⟨self,hself,hm⟩ :∃s,s=lq dJ∧yS s d0 d1 d2=some r:=⟨_,rfl,hm⟩;unfold yS at hm;refine enter 103 Tryz.func102 rfl rfl rfl ?_;intro f hf;have s0:f 0=.pointer (some ⟨qg,qh,none⟩):=hf 0 _ rfl;have s1:f 1=.int .i64 d1:=hf 1 _ rfl;have s2:f 2=.int .i64 d2:=hf 2 _ rfl;refine wp_seq<|au rfl<|aW (.int .i64 0)<|RQ.nil<|ah<|wp_seq<|cZ rfl<|aT s0<|Du rfl<|gy 0 rfl<|gZ (.int .i64 d0.kind) rfl (bV (cellT T (eu 0 _ rfl))) ?_;obtain ⟨y3,e4,hm⟩:=bnd hm;refine RQ.call rfl (qZ rfl) (by kernel_rfl) (v:=.tuple #[.int .i64 y3.1,.int .i64 y3.2.1,.int .i64 y3.2.2.1,.int .i64 y3.2.2.2]) (bel (K:=fun _=>True) fun w' hb'=>(abd d0.kind _ e4  w' ))<|dF (.tuple #[.int .i64 y3.1,.int .i64 y3.2.1,.int .i64 y3.2.2.1,.int .i64 y3.2.2.2])<|RQ.y rfl (Y.extract (i:=0) rfl rfl)<|RQ.y rfl (Y.extract (i:=1) rfl rfl)<|RQ.y rfl (Y.extract (i:=2) rfl rfl)<|RQ.y rfl (Y.extract (i:=3) rfl rfl)<|aW (.int .i64 y3.1)<|aW (.int .i64 y3.2.1)<|aW (.int .i64 y3.2.2.1)<|aW (.int .i64 y3.2.2.2)<|RQ.nil ?_;intro w5 hb6;have aAn:=hb6.size;have T:=Tt T hb6;refine ah<|wp_seq<|wp_seq<|cZ rfl<|aT s1<|iq (.bool (decide (d1 < 1)))<|dF (.bool (decide (d1 < 1))) ?_;rcases aB (decide (d1 < 1)) with c7|c7
   ·replace hm:=cF c7 hm;have pc7:=of_decide_eq_false c7;refine RQ.y (bT 27 c7) (Y.move (v:=.int .i64 d2) s2)<|RQ.y (bT 27 c7) (Y.dS (v:=.bool (decide (d2 < 1))) rfl rfl rfl)<|dN false (.bool (decide (d2 < 1))) (vb rfl c7)<|dF (.bool (decide (d2 < 1))) ?_;rcases aB (decide (d2 < 1)) with c8|c8
    ·replace hm:=cF c8 hm;have pc8:=of_decide_eq_false c8;refine RQ.y (bT 31 c8) (Y.move (v:=.pointer (some ⟨qg,qh,none⟩)) s0)<|RQ.y (bT 31 c8) (Y.nilCheck rfl)<|RQ.y (bT 31 c8) (Y.fieldAddr (off:=3) rfl (by kernel_rfl))<|RQ.y (bT 31 c8) (Y.load (v:=.slice A2 d0.kids.length c2) rfl (by kernel_rfl) (bV (cellT T (eu 3 _ rfl))))<|RQ.y (bT 31 c8) (Y.len (by kernel_rfl) rfl)<|RQ.y (bT 31 c8) (Y.move (v:=.int .i64 y3.1) rfl)<|RQ.y (bT 31 c8) (Y.move (v:=.int .i64 y3.2.1) rfl)<|RQ.call (bT 31 c8) (Vu rfl rfl rfl) (by kernel_rfl) (v:=.bool (ni (d0.kids.length:Int) y3.1 y3.2.1)) (bel (K:=fun _=>True) fun w' hb'=>(KR (mD (d0.kids.length:Int) y3.1 y3.2.1 w')))<|RQ.y (bT 31 c8) (Y.not (b':=(!(ni (d0.kids.length:Int) y3.1 y3.2.1))) rfl rfl)<|dN false (.bool (!(ni (d0.kids.length:Int) y3.1 y3.2.1))) (vb rfl c8)<|dF (.bool (!(ni (d0.kids.length:Int) y3.1 y3.2.1))) ?_;rcases aB (ni (d0.kids.length:Int) y3.1 y3.2.1) with c9|c9
     ·replace hm:=cF c9 hm;iterate 9 refine RQ.skip (Gq (dj:=42) rfl (gQ rfl c9 rfl) rfl) ?_
      refine dN true (.bool true) (gQ rfl c9 rfl)<|dF (.bool true) ?_;iterate 3 refine RQ.skip (zZ 53) ?_
      refine dN true (.bool true) rfl<|RQ.nil ?_;intro w10 Bo;have apY:=Bo.size;have T:=Tt T Bo;refine ah<|dX rfl rfl<|wp_seq<|au rfl<|aW (.int .i64 (-1))<|RQ.nil<|ah<|wp_ret ?_
      cases hm
      exact (aF (aV rfl rfl rfl ⟨rfl,T⟩))
     replace hm:=cT c9 hm;refine RQ.y (eG (dj:=42) rfl (gQ rfl c9 rfl)) (Y.move (v:=.pointer (some ⟨qg,qh,none⟩)) s0)<|RQ.y (eG (dj:=42) rfl (gQ rfl c9 rfl)) (Y.nilCheck rfl)<|RQ.y (eG (dj:=42) rfl (gQ rfl c9 rfl)) (Y.fieldAddr (off:=2) rfl (by kernel_rfl))<|RQ.y (eG (dj:=42) rfl (gQ rfl c9 rfl)) (Y.load (v:=.slice A1 d0.data.length c1) rfl (by kernel_rfl) (bV (cellT T (eu 2 _ rfl))))<|RQ.y (eG (dj:=42) rfl (gQ rfl c9 rfl)) (Y.len (by kernel_rfl) rfl)<|RQ.y (eG (dj:=42) rfl (gQ rfl c9 rfl)) (Y.move (v:=.int .i64 y3.2.2.1) rfl)<|RQ.y (eG (dj:=42) rfl (gQ rfl c9 rfl)) (Y.move (v:=.int .i64 y3.2.2.2) rfl)<|RQ.call (eG (dj:=42) rfl (gQ rfl c9 rfl)) (Vu rfl rfl rfl) (by kernel_rfl) (v:=.bool (ni (d0.data.length:Int) y3.2.2.1 y3.2.2.2)) (bel (K:=fun _=>True) fun w' hb'=>(KR (mD (d0.data.length:Int) y3.2.2.1 y3.2.2.2 w')))<|RQ.y (eG (dj:=42) rfl (gQ rfl c9 rfl)) (Y.not (b':=(!(ni (d0.data.length:Int) y3.2.2.1 y3.2.2.2))) rfl rfl)<|dN false (.bool (!(ni (d0.data.length:Int) y3.2.2.1 y3.2.2.2))) (gQ rfl c9 rfl)<|dF (.bool (!(ni (d0.data.length:Int) y3.2.2.1 y3.2.2.2))) ?_;rcases aB (ni (d0.data.length:Int) y3.2.2.1 y3.2.2.2) with c12|c12
     ·replace hm:=cF c12 hm;iterate 3 refine RQ.skip (Gq (dj:=53) rfl (gQ rfl c12 rfl) rfl) ?_
      refine dN true (.bool true) (gQ rfl c12 rfl)<|RQ.nil ?_;intro w13 LQ;have apZ:=LQ.size;have T:=Tt T LQ;refine ah<|dX rfl rfl<|wp_seq<|au rfl<|aW (.int .i64 (-1))<|RQ.nil<|ah<|wp_ret ?_
      cases hm
      exact (aF (aV rfl rfl rfl ⟨rfl,T⟩))
     replace hm:=cT c12 hm;refine RQ.y (eG (dj:=53) rfl (gQ rfl c12 rfl)) (Y.move (v:=.pointer (some ⟨qg,qh,none⟩)) s0) ?_;obtain ⟨GI,e16,hm⟩:=bnd hm;refine RQ.call (eG (dj:=53) rfl (gQ rfl c12 rfl)) (qZ rfl) (by kernel_rfl) (v:=.bool GI) (bel (K:=fun _=>True) fun w' hb'=>(abe d0 _ e16 _ w' (l9 aK qm qB eu (Tt T hb'))))<|RQ.y (eG (dj:=53) rfl (gQ rfl c12 rfl)) (Y.not (b':=(!GI)) rfl rfl)<|dN false (.bool (!GI)) (gQ rfl c12 rfl)<|RQ.nil ?_;intro w17 PN;have awh:=PN.size;have T:=Tt T PN;refine ah ?_;rcases aB GI with c19|c19
     ·replace hm:=cF c19 hm;refine dX rfl (gQ rfl c19 rfl)<|wp_seq<|au rfl<|aW (.int .i64 (-1))<|RQ.nil<|ah<|wp_ret ?_
      cases hm
      exact (aF (aV rfl rfl rfl ⟨rfl,T⟩))
     replace hm:=cT c19 hm;refine gU rfl (gQ rfl c19 rfl)<|wp_skip<|ah<|wp_seq<|wp_seq<|au rfl<|aW (.int .i64 0)<|RQ.nil<|ah<|wp_block ?_;obtain ⟨K1,hK1,hm⟩ :∃K,K=(oO d0 d1 d2 self)∧kH d0 K (d0.data.length+1) 0=some r:=⟨_,rfl,hm⟩;refine dG (fun g f w'=>∃(i47:Int),f 0=.pointer (some ⟨qg,qh,none⟩)∧f 1=.int .i64 d1∧f 2=.int .i64 d2∧f 11=.int .i64 i47∧0≤i47∧Below w.heap.size w w'∧kH d0 K1 g i47=some r) 0 (fun f w'=>f 0=.pointer (some ⟨qg,qh,none⟩)∧f 1=.int .i64 d1∧f 2=.int .i64 d2∧Below w.heap.size w w'∧oO d0 d1 d2 self  = some r) (d0.data.length+1) ⟨0,s0,s1,s2,rfl,(by omega),T,hm⟩ ?_ ?_
     ·rintro f w20 ⟨abg,BO,Ho,T,hm⟩;unfold oO at hm;refine dW (ah ?_);refine wp_seq<|au rfl<|aW (.int .i64 1)<|RQ.nil<|ah<|wp_seq<|wp_seq<|au rfl<|aW (.int .i64 0)<|RQ.nil<|ah<|wp_block ?_;obtain ⟨K2,hK2,hm⟩ :∃K,K=wJ∧oN d0 d1 d2 self K (d0.kids.length+1) 1 0=some r:=⟨_,rfl,hm⟩;refine dG (fun g f w'=>∃(i23:Int) (i24:Int),f 0=.pointer (some ⟨qg,qh,none⟩)∧f 1=.int .i64 d1∧f 2=.int .i64 d2∧f 12=.int .i64 i23∧f 13=.int .i64 i24∧0≤i24∧Below w.heap.size w w'∧oN d0 d1 d2 self K2 g i23 i24=some r) 2 (fun f w'=>∃(i21:Int),f 12=.int .i64 i21∧Below w.heap.size w w'∧wJ i21=some r) (d0.kids.length+1) ⟨1,0,abg,BO,Ho,rfl,rfl,(by omega),T,hm⟩ ?_ ?_
      ·rintro f MO ⟨i21,aKz,T,hm⟩;unfold wJ at hm;refine dW (ah ?_);refine wp_seq<|au rfl<|aT aKz<|aW (.int .i64 i21)<|RQ.nil<|ah<|wp_ret ?_
       cases hm
       exact (aV rfl rfl rfl ⟨rfl,T⟩)
      rintro g f w25 ⟨i23,i24,PO,adP,Zd,aAo,aAp,aXB,T,hm⟩;rcases g with _|g
      ·simp only [oN] at hm; cases hm
      obtain ⟨Jk,Gw,hm⟩ :∃z,z=oN d0 d1 d2 self K2 g∧FH d0 d1 d2 self z K2 i23 i24=some r:=⟨_,rfl,hm⟩;unfold FH at hm;refine wp_seq<|wp_seq<|au rfl<|aT aAp<|aT PO<|Du rfl<|gy 3 rfl<|gZ (.slice A2 d0.kids.length c2) rfl (cu (cellT T (eu 3 _ rfl)))<|yH rfl<|iq (.bool (decide (i24 < (d0.kids.length:Int))))<|RQ.nil<|ah ?_;rcases aB (decide (i24 < (d0.kids.length:Int))) with Jj|Jj
      ·replace hm:=cF Jj hm;have pc26:=of_decide_eq_false Jj;refine iH Jj<|wp_exit ?_;exact (bQ (bQ (iW ⟨_,rfl,⟨i23,aAo,T,(by rw [hK2] at hm; exact hm)⟩⟩)))
      replace hm:=cT Jj hm;have pc26:=of_decide_eq_true Jj;refine ig Jj<|wp_skip<|ah<|wp_seq<|wp_block<|wp_seq<|cZ rfl<|aT PO<|Du rfl<|gy 3 rfl<|gZ (.slice A2 d0.kids.length c2) rfl (bV (cellT T (eu 3 _ rfl)))<|aT aAp ?_;obtain ⟨x27,aKA,hm⟩:=bnd hm;obtain ⟨k28,hk31,aXC,aKA⟩:=aU aKA;obtain ⟨b34,o35,rfl,aPR⟩:=h2.addr (by omega);obtain ⟨baj,aAq,aXD⟩:=h2.el aKA;have aKB:=aAq;obtain ⟨A36,n36,c36,A37,n37,c37,rfl,⟨h36,r36⟩,⟨h37,r37⟩⟩:=(bG aAq);obtain ⟨rfl,q36⟩:=bI h36 r36;obtain ⟨rfl,q37⟩:=bI h37 r37;refine RQ.y rfl (Y.indexAddr (m:=k28) (sz:=4) rfl rfl hk31 aXC (by kernel_rfl))<|aT adP ?_;obtain ⟨s38,anz,hm⟩:=bnd hm;replace anz:=jg anz;refine uZ (.int .i64 s38) rfl rfl (by rw [BN anz.2,anz.1])<|aT Zd<|aT aAo ?_;obtain ⟨s39,anA,hm⟩:=bnd hm;replace anA:=jg anA;refine uZ (.int .i64 s39) rfl rfl (by rw [BN anA.2,anA.1]) ?_;obtain ⟨y40,e41,hm⟩:=bnd hm;refine RQ.call rfl (Vu rfl rfl rfl) (by kernel_rfl) (v:=.int .i64 y40) (bel (K:=fun _=>True) fun w' hb'=>(ih x27 s38 s39 _ (by rw [← hself]; exact e41) _ w' (l9 aK aPR aKB aXD (Tt T hb'))))<|aW (.int .i64 y40)<|RQ.nil ?_;intro w42 WR;have ap0:=WR.size;have T:=Tt T WR;refine ah<|wp_seq<|wp_seq<|au rfl<|dF (.int .i64 y40)<|iq (.bool (decide (y40 < 0)))<|RQ.nil<|ah ?_;rcases aB (decide (y40 < 0)) with Uh|Uh
      ·replace hm:=cF Uh hm;have pc44:=of_decide_eq_false Uh;refine iH Uh<|wp_skip<|ah<|au rfl<|aT aAo<|dF (.int .i64 y40) ?_;obtain ⟨s45,aGq,hm⟩:=bnd hm;replace aGq:=jg aGq;refine uZ (.int .i64 s45) rfl rfl (by rw [bn aGq.2,aGq.1])<|aW (.int .i64 s45)<|RQ.nil ?_;refine eF (ah ?_);refine au rfl<|aT aAp<|RQ.y rfl (Y.dS rfl rfl (bn (m:=i24) (by omega)))<|aW (.int .i64 (i24+1))<|RQ.nil ?_;exact (ah ⟨g,_,Nat.lt_succ_self _,rfl,⟨s45,(i24+1),PO,adP,Zd,rfl,rfl,(by omega),T,(by rw [← Gw]; exact hm)⟩⟩)
      replace hm:=cT Uh hm;have pc44:=of_decide_eq_true Uh;refine ig Uh<|wp_seq<|au rfl<|aW (.int .i64 (-1))<|RQ.nil<|ah<|wp_ret ?_
      cases hm
      exact (aF (bC (aF (aF (jG (bC (aF (aV rfl rfl rfl ⟨rfl,T⟩))))))))
     rintro g f w48 ⟨i47,dQ,iF,yT,ag6,aKC,T,hm⟩;rcases g with _|g
     ·simp only [kH] at hm; cases hm
     obtain ⟨eU,d_,hm⟩ :∃z,z=kH d0 K1 g∧wK d0 z K1 i47=some r:=⟨_,rfl,hm⟩;unfold wK at hm;refine wp_seq<|wp_seq<|au rfl<|aT ag6<|aT dQ<|Du rfl<|gy 2 rfl<|gZ (.slice A1 d0.data.length c1) rfl (cu (cellT T (eu 2 _ rfl)))<|yH rfl<|iq (.bool (decide (i47 < (d0.data.length:Int))))<|RQ.nil<|ah ?_;rcases aB (decide (i47 < (d0.data.length:Int))) with c49|c49
     ·replace hm:=cF c49 hm;have aXE:=of_decide_eq_false c49;refine iH c49<|wp_exit ?_;exact (bQ (bQ (iW ⟨_,rfl,⟨dQ,iF,yT,T,(by rw [hK1] at hm; exact hm)⟩⟩)))
     replace hm:=cT c49 hm;have aXE:=of_decide_eq_true c49;refine ig c49<|wp_skip<|ah<|wp_seq<|wp_block<|wp_seq<|cZ rfl<|aT dQ<|Du rfl<|gy 2 rfl<|gZ (.slice A1 d0.data.length c1) rfl (bV (cellT T (eu 2 _ rfl)))<|aT ag6 ?_;obtain ⟨x50,aKD,hm⟩:=bnd hm;obtain ⟨k51,aXF,aXG,aKD⟩:=aU aKD;obtain ⟨b57,o58,rfl,a8Y⟩:=h1.addr (by omega);obtain ⟨bak,aAr,aXH⟩:=h1.el aKD;have aXI:=aAr;obtain rfl:=aAr;refine RQ.y rfl (Y.indexAddr (m:=k51) (sz:=1) rfl rfl aXF aXG (by kernel_rfl))<|gZ (.int .i64 x50) rfl (bV (cellT T (aXH 0 _ rfl)))<|RQ.call rfl (Vu rfl rfl rfl) (by kernel_rfl) (v:=.bool (ni x50 0 23)) (bel (K:=fun _=>True) fun w' hb'=>(KR (mD x50 0 23 w')))<|RQ.y rfl (Y.not (b':=(!(ni x50 0 23))) rfl rfl)<|RQ.nil ?_;intro w59 as1;have awi:=as1.size;have T:=Tt T as1;refine ah ?_;rcases aB (ni x50 0 23) with Ze|Ze
     ·replace hm:=cF Ze hm;refine dX rfl (gQ rfl Ze rfl)<|wp_seq<|au rfl<|aW (.int .i64 (-1))<|RQ.nil<|ah<|wp_ret ?_
      cases hm
      exact (bC (aF (aF (jG (bC (aF (aV rfl rfl rfl ⟨rfl,T⟩)))))))
     replace hm:=cT Ze hm;refine gU rfl (gQ rfl Ze rfl)<|wp_skip ?_;refine eF (ah ?_);refine au rfl<|aT ag6<|RQ.y rfl (Y.dS rfl rfl (bn (m:=i47) (by omega)))<|aW (.int .i64 (i47+1))<|RQ.nil ?_;exact (ah ⟨g,_,Nat.lt_succ_self _,rfl,⟨(i47+1),dQ,iF,yT,rfl,(by omega),T,(by rw [← d_]; exact hm)⟩⟩)
    replace hm:=cT c8 hm;have pc8:=of_decide_eq_true c8;iterate 9 refine RQ.skip (oL 31 c8) ?_
    refine dN true (.bool true) (vb rfl c8)<|dF (.bool true) ?_;iterate 9 refine RQ.skip (zZ 42) ?_
    refine dN true (.bool true) rfl<|dF (.bool true) ?_;iterate 3 refine RQ.skip (zZ 53) ?_
    refine dN true (.bool true) rfl<|RQ.nil ?_;intro w63 hb64;have aPS:=hb64.size;have T:=Tt T hb64;refine ah<|dX rfl rfl<|wp_seq<|au rfl<|aW (.int .i64 (-1))<|RQ.nil<|ah<|wp_ret ?_
    cases hm
    exact (aF (aV rfl rfl rfl ⟨rfl,T⟩))
   replace hm:=cT c7 hm;have pc7:=of_decide_eq_true c7;refine RQ.skip (oL 27 c7)<|RQ.skip (oL 27 c7)<|dN true (.bool true) (vb rfl c7)<|dF (.bool true) ?_;iterate 9 refine RQ.skip (zZ 31) ?_
   refine dN true (.bool true) rfl<|dF (.bool true) ?_;iterate 9 refine RQ.skip (zZ 42) ?_
   refine dN true (.bool true) rfl<|dF (.bool true) ?_;iterate 3 refine RQ.skip (zZ 53) ?_
   refine dN true (.bool true) rfl<|RQ.nil ?_;intro w65 aGr;have a8Z:=aGr.size;have T:=Tt T aGr;refine ah<|dX rfl rfl<|wp_seq<|au rfl<|aW (.int .i64 (-1))<|RQ.nil<|ah<|wp_ret ?_
   cases hm
   exact (aF (aV rfl rfl rfl ⟨rfl,T⟩))
noncomputable def D7 (d0:ak):Option Bool:=
  ((lq (SizeOf.sizeOf d0) d0 80 400).bind fun y3=>some (decide (y3 > 0)))
set_option maxHeartbeats 2000000 in
theorem WS (d0:ak) (r:Bool) (hm:D7 d0=some r) (v0:Value) (w:World) (hv0:Pt bf w v0 d0) :
    Calls Tryz.prog 77 #[v0] w fun e w'=>e=.returned (.bool r)∧Below w.heap.size w w':=by
  obtain ⟨qg,qh,lg,rfl,qm,jR,eu⟩:=hv0;have qB:=jR;obtain ⟨A1,n1,c1,A2,n2,c2,rfl,⟨h1,r1⟩,⟨h2,r2⟩⟩:=(bG jR);obtain ⟨rfl,q1⟩:=bI h1 r1;obtain ⟨rfl,q2⟩:=bI h2 r2;have T:=Below.refl w.heap.size w;unfold D7 at hm;refine enter 6 Tryz.func77 rfl rfl rfl ?_;intro f hf;have s0:f 0=.pointer (some ⟨qg,qh,none⟩):=hf 0 _ rfl;refine wp_seq<|au rfl<|aW (.bool false)<|RQ.nil<|ah<|wp_seq<|cZ rfl<|aT s0 ?_;obtain ⟨y3,e4,hm⟩:=bnd hm;refine RQ.call rfl (Vu rfl rfl rfl) (by kernel_rfl) (v:=.int .i64 y3) (bel (K:=fun _=>True) fun w' hb'=>(abf (SizeOf.sizeOf d0) d0 80 400 _ e4 _ w' (l9 aK qm qB eu (Tt T hb'))))<|iq (.bool (decide (y3 > 0)))<|aW (.bool (decide (y3 > 0)))<|RQ.nil ?_;intro w5 hb6;have T:=Tt T hb6;refine ah<|wp_ret ?_
  cases hm
  exact (aV rfl rfl rfl ⟨rfl,T⟩)
noncomputable def yI (d0:ak) (d1:Int):Option Int:=
  (bif (d0.kind==4) then some 1 else (bif (d0.kind==7) then (bif (d1==1) then some 1 else some 0) else some 0))
set_option maxHeartbeats 2000000 in
theorem Hq (d0:ak) (d1:Int) (r:Int) (hm:yI d0 d1=some r) (v0:Value) (w:World) (hv0:Pt bf w v0 d0) :
    Calls Tryz.prog 103 #[v0,.int .i64 d1] w fun e w'=>e=.returned (.int .i64 r)∧Below w.heap.size w w':=by
  obtain ⟨qg,qh,lg,rfl,qm,jR,eu⟩:=hv0;have qB:=jR;obtain ⟨A1,n1,c1,A2,n2,c2,rfl,⟨h1,r1⟩,⟨h2,r2⟩⟩:=(bG jR);obtain ⟨rfl,q1⟩:=bI h1 r1;obtain ⟨rfl,q2⟩:=bI h2 r2;have T:=Below.refl w.heap.size w;unfold yI at hm;refine enter 21 Tryz.func103 rfl rfl rfl ?_;intro f hf;have s0:f 0=.pointer (some ⟨qg,qh,none⟩):=hf 0 _ rfl;have s1:f 1=.int .i64 d1:=hf 1 _ rfl;refine wp_seq<|au rfl<|aW (.int .i64 0)<|RQ.nil<|ah<|wp_seq<|wp_seq<|au rfl<|aT s0<|Du rfl<|gy 0 rfl<|gZ (.int .i64 d0.kind) rfl (cu (cellT T (eu 0 _ rfl)))<|iq (.bool (d0.kind==4))<|dF (.bool (d0.kind==4)) ?_;rcases aB (d0.kind==4) with c3|c3
  ·replace hm:=cF c3 hm;refine RQ.y (bT 10 c3) (Y.move (v:=.pointer (some ⟨qg,qh,none⟩)) s0)<|RQ.y (bT 10 c3) (Y.nilCheck rfl)<|RQ.y (bT 10 c3) (Y.fieldAddr (off:=0) rfl (by kernel_rfl))<|RQ.y (bT 10 c3) (Y.load (v:=.int .i64 d0.kind) rfl (by kernel_rfl) (cu (cellT T (eu 0 _ rfl))))<|RQ.y (bT 10 c3) (Y.dS (v:=.bool (d0.kind==7)) rfl rfl rfl)<|RQ.y (bT 10 c3) (Y.move (v:=.bool (d0.kind==7)) rfl) ?_;rcases aB (d0.kind==7) with c4|c4
   ·replace hm:=cF c4 hm;refine RQ.skip (oL 16 c4)<|RQ.skip (oL 16 c4)<|RQ.y (bT 10 c3) (Y.pick (b:=false) (v:=.bool false) (vb rfl c4) rfl)<|dN false (.bool false) (vb rfl c3)<|RQ.nil<|ah<|gU rfl rfl<|wp_skip<|ah<|wp_seq<|au rfl<|aW (.int .i64 0)<|RQ.nil<|ah<|wp_ret ?_
    cases hm
    exact (aV rfl rfl rfl ⟨rfl,T⟩)
   replace hm:=cT c4 hm;refine RQ.y (bT 16 c4) (Y.move (v:=.int .i64 d1) s1)<|RQ.y (bT 16 c4) (Y.dS (v:=.bool (d1==1)) rfl rfl rfl)<|RQ.y (bT 10 c3) (Y.pick (b:=true) (v:=.bool (d1==1)) (vb rfl c4) rfl)<|dN false (.bool (d1==1)) (vb rfl c3)<|RQ.nil<|ah ?_;rcases aB (d1==1) with c5|c5
   ·replace hm:=cF c5 hm;refine iH c5<|wp_skip<|ah<|wp_seq<|au rfl<|aW (.int .i64 0)<|RQ.nil<|ah<|wp_ret ?_
    cases hm
    exact (aV rfl rfl rfl ⟨rfl,T⟩)
   replace hm:=cT c5 hm;refine ig c5<|wp_seq<|au rfl<|aW (.int .i64 1)<|RQ.nil<|ah<|wp_ret ?_
   cases hm
   exact (aF (aV rfl rfl rfl ⟨rfl,T⟩))
  replace hm:=cT c3 hm;iterate 6 refine RQ.skip (oL 10 c3) ?_
  refine RQ.skip rfl<|RQ.skip rfl<|RQ.skip (oL 10 c3)<|dN true (.bool true) (vb rfl c3)<|RQ.nil<|ah<|dX rfl rfl<|wp_seq<|au rfl<|aW (.int .i64 1)<|RQ.nil<|ah<|wp_ret ?_
  cases hm
  exact (aF (aV rfl rfl rfl ⟨rfl,T⟩))
noncomputable def rZ:Option Bool:=
  some false
noncomputable def wL (d0:ak) (d1:Int) (self:ak→Int→Option Bool) (eU:Int→Option Bool) (K1:Option Bool) (i5:Int):Option Bool:=
  (bif (decide (i5 < (d0.kids.length:Int))) then ((fC d0.kids i5).bind fun x8=>((yI d0 i5).bind fun Dv=>((ck (d1+Dv)).bind fun s21=>((self x8 s21).bind fun y22=>(bif y22 then some true else (eU (i5+1))))))) else (K1))
noncomputable def kJ (d0:ak) (d1:Int) (self:ak→Int→Option Bool) (K1:Option Bool):Nat→Int→Option Bool
  |0,_=>none
  |g+1,i5=>wL d0 d1 self (kJ d0 d1 self K1 g) K1 i5
noncomputable def yU (self:ak→Int→Option Bool) (d0:ak) (d1:Int):Option Bool:=
  (bif (d0.kind==1) then some (decide (d0.value ≥ d1)) else (kJ d0 d1 self rZ (d0.kids.length+1) 0))
noncomputable def oG:Nat→ak→Int→Option Bool
  |0,_,_=>none
  |dJ+1,d0,d1=>yU (oG dJ) d0 d1
set_option maxHeartbeats 2000000 in
theorem P9 :∀(dJ:Nat) (d0:ak) (d1:Int) (r:Bool) (hm:oG dJ d0 d1=some r) (v0:Value) (w:World) (hv0:Pt bf w v0 d0),
    Calls Tryz.prog 79 #[v0,.int .i64 d1] w fun e w'=>e=.returned (.bool r)∧Below w.heap.size w w':=by
  intro dJ;induction dJ with
  |zero=>
   intro d0 d1 r hm v0 w hv0
   cases hm
  |succ dJ ih=>
   intro d0 d1 r hm v0 w hv0;obtain ⟨qg,qh,lg,rfl,qm,jR,eu⟩:=hv0;have qB:=jR;obtain ⟨A1,n1,c1,A2,n2,c2,rfl,⟨h1,r1⟩,⟨h2,r2⟩⟩:=(bG jR);obtain ⟨rfl,q1⟩:=bI h1 r1;obtain ⟨rfl,q2⟩:=bI h2 r2;have T:=Below.refl w.heap.size w;obtain ⟨self,hself,hm⟩ :∃s,s=oG dJ∧yU s d0 d1=some r:=⟨_,rfl,hm⟩;unfold yU at hm;refine enter 38 Tryz.func79 rfl rfl rfl ?_;intro f hf;have s0:f 0=.pointer (some ⟨qg,qh,none⟩):=hf 0 _ rfl;have s1:f 1=.int .i64 d1:=hf 1 _ rfl;refine wp_seq<|au rfl<|aW (.bool false)<|RQ.nil<|ah<|wp_seq<|wp_seq<|au rfl<|aT s0<|Du rfl<|gy 0 rfl<|gZ (.int .i64 d0.kind) rfl (cu (cellT T (eu 0 _ rfl)))<|iq (.bool (d0.kind==1))<|RQ.nil<|ah ?_;rcases aB (d0.kind==1) with c3|c3
   ·replace hm:=cF c3 hm;refine iH c3<|wp_skip<|ah<|wp_seq<|wp_seq<|au rfl<|aW (.int .i64 0)<|RQ.nil<|ah<|wp_block ?_;obtain ⟨K1,hK1,hm⟩ :∃K,K=rZ∧kJ d0 d1 self K (d0.kids.length+1) 0=some r:=⟨_,rfl,hm⟩;refine dG (fun g f w'=>∃(i5:Int),f 0=.pointer (some ⟨qg,qh,none⟩)∧f 1=.int .i64 d1∧f 5=.int .i64 i5∧0≤i5∧Below w.heap.size w w'∧kJ d0 d1 self K1 g i5=some r) 0 (fun f w'=>Below w.heap.size w w'∧rZ  = some r) (d0.kids.length+1) ⟨0,s0,s1,rfl,(by omega),T,hm⟩ ?_ ?_
    ·rintro f w4 ⟨T,hm⟩;unfold rZ at hm;refine dW (ah ?_);refine wp_seq<|au rfl<|aW (.bool false)<|RQ.nil<|ah<|wp_ret ?_
     cases hm
     exact (aV rfl rfl rfl ⟨rfl,T⟩)
    rintro g f w6 ⟨i5,dQ,iF,jD,P6,T,hm⟩;rcases g with _|g
    ·simp only [kJ] at hm; cases hm
    obtain ⟨eU,d_,hm⟩ :∃z,z=kJ d0 d1 self K1 g∧wL d0 d1 self z K1 i5=some r:=⟨_,rfl,hm⟩;unfold wL at hm;refine wp_seq<|wp_seq<|au rfl<|aT jD<|aT dQ<|Du rfl<|gy 3 rfl<|gZ (.slice A2 d0.kids.length c2) rfl (cu (cellT T (eu 3 _ rfl)))<|yH rfl<|iq (.bool (decide (i5 < (d0.kids.length:Int))))<|RQ.nil<|ah ?_;rcases aB (decide (i5 < (d0.kids.length:Int))) with c7|c7
    ·replace hm:=cF c7 hm;have pc7:=of_decide_eq_false c7;refine iH c7<|wp_exit ?_;exact (bQ (bQ (iW ⟨_,rfl,⟨T,(by rw [hK1] at hm; exact hm)⟩⟩)))
    replace hm:=cT c7 hm;have pc7:=of_decide_eq_true c7;refine ig c7<|wp_skip<|ah<|wp_seq<|wp_block<|wp_seq<|FC (by kernel_rfl) (by kernel_rfl)<|aT dQ<|Du rfl<|gy 3 rfl<|gZ (.slice A2 d0.kids.length c2) rfl (bV (cellT T (eu 3 _ rfl)))<|aT jD ?_;obtain ⟨x8,aKE,hm⟩:=bnd hm;obtain ⟨k9,hk12,aXJ,aKE⟩:=aU aKE;obtain ⟨b15,o16,rfl,aPT⟩:=h2.addr (by omega);obtain ⟨bam,aAs,aXK⟩:=h2.el aKE;have aKF:=aAs;obtain ⟨A17,n17,c17,A18,n18,c18,rfl,⟨h17,r17⟩,⟨h18,r18⟩⟩:=(bG aAs);obtain ⟨rfl,q17⟩:=bI h17 r17;obtain ⟨rfl,q18⟩:=bI h18 r18;refine RQ.y rfl (Y.indexAddr (m:=k9) (sz:=4) rfl rfl hk12 aXJ (by kernel_rfl))<|aT iF<|aT dQ<|aT jD ?_;obtain ⟨Dv,e20,hm⟩:=bnd hm;refine RQ.call rfl (qV rfl rfl) (by kernel_rfl) (v:=.int .i64 Dv) (bel (K:=fun _=>True) fun w' hb'=>(Hq d0 i5 _ e20 _ w' (l9 aK qm qB eu (Tt T hb')))) ?_;obtain ⟨s21,abh,hm⟩:=bnd hm;replace abh:=jg abh;refine uZ (.int .i64 s21) rfl rfl (by rw [bn abh.2,abh.1]) ?_;obtain ⟨y22,e23,hm⟩:=bnd hm;refine RQ.call rfl (qV rfl rfl) (by kernel_rfl) (v:=.bool y22) (bel (K:=fun _=>True) fun w' hb'=>(ih x8 s21 _ (by rw [← hself]; exact e23) _ w' (l9 aK aPT aKF aXK (Tt T hb'))))<|RQ.nil ?_;intro w24 PI;have afl:=PI.size;have T:=Tt T PI;refine ah ?_;rcases aB y22 with Jj|Jj
    ·replace hm:=cF Jj hm;refine iH Jj<|wp_skip ?_;refine eF (ah ?_);refine au rfl<|aT jD<|RQ.y rfl (Y.dS rfl rfl (bn (m:=i5) (by omega)))<|aW (.int .i64 (i5+1))<|RQ.nil ?_;exact (ah ⟨g,_,Nat.lt_succ_self _,rfl,⟨(i5+1),dQ,iF,rfl,(by omega),T,(by rw [← d_]; exact hm)⟩⟩)
    replace hm:=cT Jj hm;refine ig Jj<|wp_seq<|au rfl<|aW (.bool true)<|RQ.nil<|ah<|wp_ret ?_
    cases hm
    exact (bC (aF (aF (jG (bC (aF (aV rfl rfl rfl ⟨rfl,T⟩)))))))
   replace hm:=cT c3 hm;refine ig c3<|wp_seq<|au rfl<|aT s0<|Du rfl<|gy 1 rfl<|gZ (.int .i64 d0.value) rfl (cu (cellT T (eu 1 _ rfl)))<|aT s1<|iq (.bool (decide (d0.value ≥ d1)))<|aW (.bool (decide (d0.value ≥ d1)))<|RQ.nil<|ah<|wp_ret ?_
   cases hm
   exact (aF (aV rfl rfl rfl ⟨rfl,T⟩))
noncomputable def Am (d0:ak):Option Bool:=
  ((D7 d0).bind fun y3=>(bif y3 then ((oG (SizeOf.sizeOf d0) d0 0).bind fun y8=>some (!y8)) else some false))
set_option maxHeartbeats 2000000 in
theorem aat (d0:ak) (r:Bool) (hm:Am d0=some r) (v0:Value) (w:World) (hv0:Pt bf w v0 d0) :
    Calls Tryz.prog 101 #[v0] w fun e w'=>e=.returned (.bool r)∧Below w.heap.size w w':=by
  obtain ⟨qg,qh,lg,rfl,qm,jR,eu⟩:=hv0;have qB:=jR;obtain ⟨A1,n1,c1,A2,n2,c2,rfl,⟨h1,r1⟩,⟨h2,r2⟩⟩:=(bG jR);obtain ⟨rfl,q1⟩:=bI h1 r1;obtain ⟨rfl,q2⟩:=bI h2 r2;have T:=Below.refl w.heap.size w;unfold Am at hm;refine enter 10 Tryz.func101 rfl rfl rfl ?_;intro f hf;have s0:f 0=.pointer (some ⟨qg,qh,none⟩):=hf 0 _ rfl;refine wp_seq<|au rfl<|aW (.bool false)<|RQ.nil<|ah<|wp_seq<|cZ rfl<|aT s0 ?_;obtain ⟨y3,e4,hm⟩:=bnd hm;refine RQ.call rfl (qZ rfl) (by kernel_rfl) (v:=.bool y3) (bel (K:=fun _=>True) fun w' hb'=>(WS d0 _ e4 _ w' (l9 aK qm qB eu (Tt T hb'))))<|dF (.bool y3) ?_;rcases aB y3 with c5|c5
  ·replace hm:=cF c5 hm;iterate 3 refine RQ.skip (oL 5 c5) ?_
   refine dN false (.bool false) (vb rfl c5)<|aW (.bool false)<|RQ.nil ?_;intro w6 hb7;have T:=Tt T hb7;refine ah<|wp_ret ?_
   cases hm
   exact (aV rfl rfl rfl ⟨rfl,T⟩)
  replace hm:=cT c5 hm;refine RQ.y (bT 5 c5) (Y.move (v:=.pointer (some ⟨qg,qh,none⟩)) s0) ?_;obtain ⟨y8,e9,hm⟩:=bnd hm;refine RQ.call (bT 5 c5) (qV rfl rfl) (by kernel_rfl) (v:=.bool y8) (bel (K:=fun _=>True) fun w' hb'=>(P9 (SizeOf.sizeOf d0) d0 0 _ e9 _ w' (l9 aK qm qB eu (Tt T hb'))))<|RQ.y (bT 5 c5) (Y.not (b':=(!y8)) rfl rfl)<|dN true (.bool (!y8)) (vb rfl c5)<|aW (.bool (!y8))<|RQ.nil ?_;intro w10 Bo;have T:=Tt T Bo;refine ah<|wp_ret ?_
  cases hm
  exact (aV rfl rfl rfl ⟨rfl,T⟩)
noncomputable def qW:Option Bool:=
  some true
noncomputable def vg (d0:ak) (self:ak→Option Bool) (eU:Int→Option Bool) (K1:Option Bool) (i6:Int):Option Bool:=
  (bif (decide (i6 < (d0.kids.length:Int))) then ((fC d0.kids i6).bind fun x9=>((self x9).bind fun y20=>(bif y20 then (eU (i6+1)) else some false))) else (K1))
noncomputable def jI (d0:ak) (self:ak→Option Bool) (K1:Option Bool):Nat→Int→Option Bool
  |0,_=>none
  |g+1,i6=>vg d0 self (jI d0 self K1 g) K1 i6
noncomputable def wM (self:ak→Option Bool) (d0:ak):Option Bool:=
  (bif (d0.kind==6) then some false else (bif (d0.kind==7) then some false else (jI d0 self qW (d0.kids.length+1) 0)))
noncomputable def ny:Nat→ak→Option Bool
  |0,_=>none
  |dJ+1,d0=>wM (ny dJ) d0
set_option maxHeartbeats 2000000 in
theorem NP :∀(dJ:Nat) (d0:ak) (r:Bool) (hm:ny dJ d0=some r) (v0:Value) (w:World) (hv0:Pt bf w v0 d0),
    Calls Tryz.prog 76 #[v0] w fun e w'=>e=.returned (.bool r)∧Below w.heap.size w w':=by
  intro dJ;induction dJ with
  |zero=>
   intro d0 r hm v0 w hv0
   cases hm
  |succ dJ ih=>
   intro d0 r hm v0 w hv0;obtain ⟨qg,qh,lg,rfl,qm,jR,eu⟩:=hv0;have qB:=jR;obtain ⟨A1,n1,c1,A2,n2,c2,rfl,⟨h1,r1⟩,⟨h2,r2⟩⟩:=(bG jR);obtain ⟨rfl,q1⟩:=bI h1 r1;obtain ⟨rfl,q2⟩:=bI h2 r2;have T:=Below.refl w.heap.size w;obtain ⟨self,hself,hm⟩ :∃s,s=ny dJ∧wM s d0=some r:=⟨_,rfl,hm⟩;unfold wM at hm;refine enter 33 Tryz.func76 rfl rfl rfl ?_;intro f hf;have s0:f 0=.pointer (some ⟨qg,qh,none⟩):=hf 0 _ rfl;refine wp_seq<|au rfl<|aW (.bool false)<|RQ.nil<|ah<|wp_seq<|wp_seq<|au rfl<|aT s0<|Du rfl<|gy 0 rfl<|gZ (.int .i64 d0.kind) rfl (cu (cellT T (eu 0 _ rfl)))<|iq (.bool (d0.kind==6))<|dF (.bool (d0.kind==6)) ?_;rcases aB (d0.kind==6) with c3|c3
   ·replace hm:=cF c3 hm;refine RQ.y (bT 9 c3) (Y.move (v:=.pointer (some ⟨qg,qh,none⟩)) s0)<|RQ.y (bT 9 c3) (Y.nilCheck rfl)<|RQ.y (bT 9 c3) (Y.fieldAddr (off:=0) rfl (by kernel_rfl))<|RQ.y (bT 9 c3) (Y.load (v:=.int .i64 d0.kind) rfl (by kernel_rfl) (cu (cellT T (eu 0 _ rfl))))<|RQ.y (bT 9 c3) (Y.dS (v:=.bool (d0.kind==7)) rfl rfl rfl)<|dN false (.bool (d0.kind==7)) (vb rfl c3)<|RQ.nil<|ah ?_;rcases aB (d0.kind==7) with c4|c4
    ·replace hm:=cF c4 hm;refine iH c4<|wp_skip<|ah<|wp_seq<|wp_seq<|au rfl<|aW (.int .i64 0)<|RQ.nil<|ah<|wp_block ?_;obtain ⟨K1,hK1,hm⟩ :∃K,K=qW∧jI d0 self K (d0.kids.length+1) 0=some r:=⟨_,rfl,hm⟩;refine dG (fun g f w'=>∃(i6:Int),f 0=.pointer (some ⟨qg,qh,none⟩)∧f 3=.int .i64 i6∧0≤i6∧Below w.heap.size w w'∧jI d0 self K1 g i6=some r) 0 (fun f w'=>Below w.heap.size w w'∧qW  = some r) (d0.kids.length+1) ⟨0,s0,rfl,(by omega),T,hm⟩ ?_ ?_
     ·rintro f w5 ⟨T,hm⟩;unfold qW at hm;refine dW (ah ?_);refine wp_seq<|au rfl<|aW (.bool true)<|RQ.nil<|ah<|wp_ret ?_
      cases hm
      exact (aV rfl rfl rfl ⟨rfl,T⟩)
     rintro g f w7 ⟨i6,dQ,jE,aAt,T,hm⟩;rcases g with _|g
     ·simp only [jI] at hm; cases hm
     obtain ⟨eU,d_,hm⟩ :∃z,z=jI d0 self K1 g∧vg d0 self z K1 i6=some r:=⟨_,rfl,hm⟩;unfold vg at hm;refine wp_seq<|wp_seq<|au rfl<|aT jE<|aT dQ<|Du rfl<|gy 3 rfl<|gZ (.slice A2 d0.kids.length c2) rfl (cu (cellT T (eu 3 _ rfl)))<|yH rfl<|iq (.bool (decide (i6 < (d0.kids.length:Int))))<|RQ.nil<|ah ?_;rcases aB (decide (i6 < (d0.kids.length:Int))) with c8|c8
     ·replace hm:=cF c8 hm;have pc8:=of_decide_eq_false c8;refine iH c8<|wp_exit ?_;exact (bQ (bQ (iW ⟨_,rfl,⟨T,(by rw [hK1] at hm; exact hm)⟩⟩)))
     replace hm:=cT c8 hm;have pc8:=of_decide_eq_true c8;refine ig c8<|wp_skip<|ah<|wp_seq<|wp_block<|wp_seq<|cZ rfl<|aT dQ<|Du rfl<|gy 3 rfl<|gZ (.slice A2 d0.kids.length c2) rfl (bV (cellT T (eu 3 _ rfl)))<|aT jE ?_;obtain ⟨x9,NQ,hm⟩:=bnd hm;obtain ⟨k10,ag7,ag8,NQ⟩:=aU NQ;obtain ⟨b16,o17,rfl,abj⟩:=h2.addr (by omega);obtain ⟨aAu,Dw,KU⟩:=h2.el NQ;have WT:=Dw;obtain ⟨A18,n18,c18,A19,n19,c19,rfl,⟨h18,r18⟩,⟨h19,r19⟩⟩:=(bG Dw);obtain ⟨rfl,q18⟩:=bI h18 r18;obtain ⟨rfl,q19⟩:=bI h19 r19;refine RQ.y rfl (Y.indexAddr (m:=k10) (sz:=4) rfl rfl ag7 ag8 (by kernel_rfl)) ?_;obtain ⟨y20,e21,hm⟩:=bnd hm;refine RQ.call rfl (qZ rfl) (by kernel_rfl) (v:=.bool y20) (bel (K:=fun _=>True) fun w' hb'=>(ih x9 _ (by rw [← hself]; exact e21) _ w' (l9 aK abj WT KU (Tt T hb'))))<|RQ.y rfl (Y.not (b':=(!y20)) rfl rfl)<|RQ.nil ?_;intro MO LU;have amn:=LU.size;have T:=Tt T LU;refine ah ?_;rcases aB y20 with c24|c24
     ·replace hm:=cF c24 hm;refine dX rfl (gQ rfl c24 rfl)<|wp_seq<|au rfl<|aW (.bool false)<|RQ.nil<|ah<|wp_ret ?_
      cases hm
      exact (bC (aF (aF (jG (bC (aF (aV rfl rfl rfl ⟨rfl,T⟩)))))))
     replace hm:=cT c24 hm;refine gU rfl (gQ rfl c24 rfl)<|wp_skip ?_;refine eF (ah ?_);refine au rfl<|aT jE<|RQ.y rfl (Y.dS rfl rfl (bn (m:=i6) (by omega)))<|aW (.int .i64 (i6+1))<|RQ.nil ?_;exact (ah ⟨g,_,Nat.lt_succ_self _,rfl,⟨(i6+1),dQ,rfl,(by omega),T,(by rw [← d_]; exact hm)⟩⟩)
    replace hm:=cT c4 hm;refine ig c4<|wp_seq<|au rfl<|aW (.bool false)<|RQ.nil<|ah<|wp_ret ?_
    cases hm
    exact (aF (aV rfl rfl rfl ⟨rfl,T⟩))
   replace hm:=cT c3 hm;iterate 5 refine RQ.skip (oL 9 c3) ?_
   refine dN true (.bool true) (vb rfl c3)<|RQ.nil<|ah<|dX rfl rfl<|wp_seq<|au rfl<|aW (.bool false)<|RQ.nil<|ah<|wp_ret ?_
   cases hm
   exact (aF (aV rfl rfl rfl ⟨rfl,T⟩))
noncomputable def uw:Option Bool:=
  some true
noncomputable def yV (d0:ak) (d1:Int) (self:ak→Int→Option Bool) (Jk:Int→Option Bool) (K2:Option Bool) (i6:Int):Option Bool:=
  (bif (decide (i6 < (d0.kids.length:Int))) then ((fC d0.kids i6).bind fun x9=>((self x9 d1).bind fun y20=>(bif y20 then (Jk (i6+1)) else some false))) else (K2))
noncomputable def lM (d0:ak) (d1:Int) (self:ak→Int→Option Bool) (K2:Option Bool):Nat→Int→Option Bool
  |0,_=>none
  |g+1,i6=>yV d0 d1 self (lM d0 d1 self K2 g) K2 i6
noncomputable def qC (d0:ak) (d1:Int) (self:ak→Int→Option Bool):Option Bool:=
  (lM d0 d1 self uw (d0.kids.length+1) 0)
noncomputable def yX (d0:ak) (d1:Int) (eU:Int→Option Bool) (K1:Option Bool) (i26:Int):Option Bool:=
  (bif (decide (i26 < (d0.data.length:Int))) then ((fC d0.data i26).bind fun x29=>(bif (decide (x29 ≥ d1)) then some false else (eU (i26+1)))) else (K1))
noncomputable def lN (d0:ak) (d1:Int) (K1:Option Bool):Nat→Int→Option Bool
  |0,_=>none
  |g+1,i26=>yX d0 d1 (lN d0 d1 K1 g) K1 i26
noncomputable def uy:Option Bool:=
  some true
noncomputable def yY (d0:ak) (d1:Int) (self:ak→Int→Option Bool) (aPU:Int→Option Bool) (K4:Option Bool) (i43:Int):Option Bool:=
  (bif (decide (i43 < (d0.kids.length:Int))) then ((fC d0.kids i43).bind fun x46=>((self x46 d1).bind fun y57=>(bif y57 then (aPU (i43+1)) else some false))) else (K4))
noncomputable def lQ (d0:ak) (d1:Int) (self:ak→Int→Option Bool) (K4:Option Bool):Nat→Int→Option Bool
  |0,_=>none
  |g+1,i43=>yY d0 d1 self (lQ d0 d1 self K4 g) K4 i43
noncomputable def qE (d0:ak) (d1:Int) (self:ak→Int→Option Bool):Option Bool:=
  (lQ d0 d1 self uy (d0.kids.length+1) 0)
noncomputable def yZ (d0:ak) (d1:Int) (aj2:Int→Option Bool) (K3:Option Bool) (i63:Int):Option Bool:=
  (bif (decide (i63 < (d0.data.length:Int))) then ((fC d0.data i63).bind fun x66=>(bif (decide (x66 ≥ d1)) then some false else (aj2 (i63+1)))) else (K3))
noncomputable def lS (d0:ak) (d1:Int) (K3:Option Bool):Nat→Int→Option Bool
  |0,_=>none
  |g+1,i63=>yZ d0 d1 (lS d0 d1 K3 g) K3 i63
noncomputable def Ar (self:ak→Int→Option Bool) (d0:ak) (d1:Int):Option Bool:=
  (bif (d0.kind==11) then (bif (decide (d0.value ≥ d1)) then some false else (lS d0 d1 (qE d0 d1 self) (d0.data.length+1) 0)) else (lN d0 d1 (qC d0 d1 self) (d0.data.length+1) 0))
noncomputable def ji:Nat→ak→Int→Option Bool
  |0,_,_=>none
  |dJ+1,d0,d1=>Ar (ji dJ) d0 d1
set_option maxHeartbeats 2000000 in
theorem SE :∀(dJ:Nat) (d0:ak) (d1:Int) (r:Bool) (hm:ji dJ d0 d1=some r) (v0:Value) (w:World) (hv0:Pt bf w v0 d0),
    Calls Tryz.prog 78 #[v0,.int .i64 d1] w fun e w'=>e=.returned (.bool r)∧Below w.heap.size w w':=by
  intro dJ;induction dJ with
  |zero=>
   intro d0 d1 r hm v0 w hv0
   cases hm
  |succ dJ ih=>
   intro d0 d1 r hm v0 w hv0;obtain ⟨qg,qh,lg,rfl,qm,jR,eu⟩:=hv0;have qB:=jR;obtain ⟨A1,n1,c1,A2,n2,c2,rfl,⟨h1,r1⟩,⟨h2,r2⟩⟩:=(bG jR);obtain ⟨rfl,q1⟩:=bI h1 r1;obtain ⟨rfl,q2⟩:=bI h2 r2;have T:=Below.refl w.heap.size w;obtain ⟨self,hself,hm⟩ :∃s,s=ji dJ∧Ar s d0 d1=some r:=⟨_,rfl,hm⟩;unfold Ar at hm;refine enter 56 Tryz.func78 rfl rfl rfl ?_;intro f hf;have s0:f 0=.pointer (some ⟨qg,qh,none⟩):=hf 0 _ rfl;have s1:f 1=.int .i64 d1:=hf 1 _ rfl;refine wp_seq<|au rfl<|aW (.bool false)<|RQ.nil<|ah<|wp_seq<|wp_seq<|au rfl<|aT s0<|Du rfl<|gy 0 rfl<|gZ (.int .i64 d0.kind) rfl (cu (cellT T (eu 0 _ rfl)))<|iq (.bool (d0.kind==11))<|dF (.bool (d0.kind==11)) ?_;rcases aB (d0.kind==11) with c3|c3
   ·replace hm:=cF c3 hm;iterate 6 refine RQ.skip (oL 12 c3) ?_
    refine dN false (.bool false) (vb rfl c3)<|RQ.nil<|ah<|gU rfl rfl<|wp_skip<|ah<|wp_seq<|wp_seq<|au rfl<|aW (.int .i64 0)<|RQ.nil<|ah<|wp_block ?_;obtain ⟨K1,hK1,hm⟩ :∃K,K=(qC d0 d1 self)∧lN d0 d1 K (d0.data.length+1) 0=some r:=⟨_,rfl,hm⟩;refine dG (fun g f w'=>∃(i26:Int),f 0=.pointer (some ⟨qg,qh,none⟩)∧f 1=.int .i64 d1∧f 5=.int .i64 i26∧0≤i26∧Below w.heap.size w w'∧lN d0 d1 K1 g i26=some r) 0 (fun f w'=>f 0=.pointer (some ⟨qg,qh,none⟩)∧f 1=.int .i64 d1∧Below w.heap.size w w'∧qC d0 d1 self  = some r) (d0.data.length+1) ⟨0,s0,s1,rfl,(by omega),T,hm⟩ ?_ ?_
    ·rintro f w4 ⟨abg,BO,T,hm⟩;unfold qC at hm;refine dW (ah ?_);refine wp_seq<|wp_seq<|au rfl<|aW (.int .i64 0)<|RQ.nil<|ah<|wp_block ?_;obtain ⟨K2,hK2,hm⟩ :∃K,K=uw∧lM d0 d1 self K (d0.kids.length+1) 0=some r:=⟨_,rfl,hm⟩;refine dG (fun g f w'=>∃(i6:Int),f 0=.pointer (some ⟨qg,qh,none⟩)∧f 1=.int .i64 d1∧f 6=.int .i64 i6∧0≤i6∧Below w.heap.size w w'∧lM d0 d1 self K2 g i6=some r) 2 (fun f w'=>Below w.heap.size w w'∧uw  = some r) (d0.kids.length+1) ⟨0,abg,BO,rfl,(by omega),T,hm⟩ ?_ ?_
     ·rintro f w5 ⟨T,hm⟩;unfold uw at hm;refine dW (ah ?_);refine wp_seq<|au rfl<|aW (.bool true)<|RQ.nil<|ah<|wp_ret ?_
      cases hm
      exact (aV rfl rfl rfl ⟨rfl,T⟩)
     rintro g f w7 ⟨i6,PO,adP,NR,aPV,T,hm⟩;rcases g with _|g
     ·simp only [lM] at hm; cases hm
     obtain ⟨Jk,Gw,hm⟩ :∃z,z=lM d0 d1 self K2 g∧yV d0 d1 self z K2 i6=some r:=⟨_,rfl,hm⟩;unfold yV at hm;refine wp_seq<|wp_seq<|au rfl<|aT NR<|aT PO<|Du rfl<|gy 3 rfl<|gZ (.slice A2 d0.kids.length c2) rfl (cu (cellT T (eu 3 _ rfl)))<|yH rfl<|iq (.bool (decide (i6 < (d0.kids.length:Int))))<|RQ.nil<|ah ?_;rcases aB (decide (i6 < (d0.kids.length:Int))) with c8|c8
     ·replace hm:=cF c8 hm;have pc8:=of_decide_eq_false c8;refine iH c8<|wp_exit ?_;exact (bQ (bQ (iW ⟨_,rfl,⟨T,(by rw [hK2] at hm; exact hm)⟩⟩)))
     replace hm:=cT c8 hm;have pc8:=of_decide_eq_true c8;refine ig c8<|wp_skip<|ah<|wp_seq<|wp_block<|wp_seq<|cZ rfl<|aT PO<|Du rfl<|gy 3 rfl<|gZ (.slice A2 d0.kids.length c2) rfl (bV (cellT T (eu 3 _ rfl)))<|aT NR ?_;obtain ⟨x9,NQ,hm⟩:=bnd hm;obtain ⟨k10,ag7,ag8,NQ⟩:=aU NQ;obtain ⟨b16,o17,rfl,abj⟩:=h2.addr (by omega);obtain ⟨aAu,Dw,KU⟩:=h2.el NQ;have WT:=Dw;obtain ⟨A18,n18,c18,A19,n19,c19,rfl,⟨h18,r18⟩,⟨h19,r19⟩⟩:=(bG Dw);obtain ⟨rfl,q18⟩:=bI h18 r18;obtain ⟨rfl,q19⟩:=bI h19 r19;refine RQ.y rfl (Y.indexAddr (m:=k10) (sz:=4) rfl rfl ag7 ag8 (by kernel_rfl))<|aT adP ?_;obtain ⟨y20,e21,hm⟩:=bnd hm;refine RQ.call rfl (qV rfl rfl) (by kernel_rfl) (v:=.bool y20) (bel (K:=fun _=>True) fun w' hb'=>(ih x9 d1 _ (by rw [← hself]; exact e21) _ w' (l9 aK abj WT KU (Tt T hb'))))<|RQ.y rfl (Y.not (b':=(!y20)) rfl rfl)<|RQ.nil ?_;intro MO LU;have amn:=LU.size;have T:=Tt T LU;refine ah ?_;rcases aB y20 with c24|c24
     ·replace hm:=cF c24 hm;refine dX rfl (gQ rfl c24 rfl)<|wp_seq<|au rfl<|aW (.bool false)<|RQ.nil<|ah<|wp_ret ?_
      cases hm
      exact (bC (aF (aF (jG (bC (aF (aV rfl rfl rfl ⟨rfl,T⟩)))))))
     replace hm:=cT c24 hm;refine gU rfl (gQ rfl c24 rfl)<|wp_skip ?_;refine eF (ah ?_);refine au rfl<|aT NR<|RQ.y rfl (Y.dS rfl rfl (bn (m:=i6) (by omega)))<|aW (.int .i64 (i6+1))<|RQ.nil ?_;exact (ah ⟨g,_,Nat.lt_succ_self _,rfl,⟨(i6+1),PO,adP,rfl,(by omega),T,(by rw [← Gw]; exact hm)⟩⟩)
    rintro g f w27 ⟨i26,dQ,iF,jD,P6,T,hm⟩;rcases g with _|g
    ·simp only [lN] at hm; cases hm
    obtain ⟨eU,d_,hm⟩ :∃z,z=lN d0 d1 K1 g∧yX d0 d1 z K1 i26=some r:=⟨_,rfl,hm⟩;unfold yX at hm;refine wp_seq<|wp_seq<|au rfl<|aT jD<|aT dQ<|Du rfl<|gy 2 rfl<|gZ (.slice A1 d0.data.length c1) rfl (cu (cellT T (eu 2 _ rfl)))<|yH rfl<|iq (.bool (decide (i26 < (d0.data.length:Int))))<|RQ.nil<|ah ?_;rcases aB (decide (i26 < (d0.data.length:Int))) with c28|c28
    ·replace hm:=cF c28 hm;have pc28:=of_decide_eq_false c28;refine iH c28<|wp_exit ?_;exact (bQ (bQ (iW ⟨_,rfl,⟨dQ,iF,T,(by rw [hK1] at hm; exact hm)⟩⟩)))
    replace hm:=cT c28 hm;have pc28:=of_decide_eq_true c28;refine ig c28<|wp_skip<|ah<|wp_seq<|wp_block<|wp_seq<|au rfl<|aT dQ<|Du rfl<|gy 2 rfl<|gZ (.slice A1 d0.data.length c1) rfl (cu (cellT T (eu 2 _ rfl)))<|aT jD ?_;obtain ⟨x29,hx32,hm⟩:=bnd hm;obtain ⟨k30,aXL,aXM,hx32⟩:=aU hx32;obtain ⟨b36,o37,rfl,a81⟩:=h1.addr (by omega);obtain ⟨bao,aAv,aXN⟩:=h1.el hx32;have aXO:=aAv;obtain rfl:=aAv;refine RQ.y rfl (Y.indexAddr (m:=k30) (sz:=1) rfl rfl aXL aXM (by kernel_rfl))<|gZ (.int .i64 x29) rfl (cu (cellT T (aXN 0 _ rfl)))<|aT iF<|iq (.bool (decide (x29 ≥ d1)))<|RQ.nil<|ah ?_;rcases aB (decide (x29 ≥ d1)) with GK|GK
    ·replace hm:=cF GK hm;have pc38:=of_decide_eq_false GK;refine iH GK<|wp_skip ?_;refine eF (ah ?_);refine au rfl<|aT jD<|RQ.y rfl (Y.dS rfl rfl (bn (m:=i26) (by omega)))<|aW (.int .i64 (i26+1))<|RQ.nil ?_;exact (ah ⟨g,_,Nat.lt_succ_self _,rfl,⟨(i26+1),dQ,iF,rfl,(by omega),T,(by rw [← d_]; exact hm)⟩⟩)
    replace hm:=cT GK hm;have pc38:=of_decide_eq_true GK;refine ig GK<|wp_seq<|au rfl<|aW (.bool false)<|RQ.nil<|ah<|wp_ret ?_
    cases hm
    exact (bC (aF (aF (jG (bC (aF (aV rfl rfl rfl ⟨rfl,T⟩)))))))
   replace hm:=cT c3 hm;refine RQ.y (bT 12 c3) (Y.move (v:=.pointer (some ⟨qg,qh,none⟩)) s0)<|RQ.y (bT 12 c3) (Y.nilCheck rfl)<|RQ.y (bT 12 c3) (Y.fieldAddr (off:=1) rfl (by kernel_rfl))<|RQ.y (bT 12 c3) (Y.load (v:=.int .i64 d0.value) rfl (by kernel_rfl) (cu (cellT T (eu 1 _ rfl))))<|RQ.y (bT 12 c3) (Y.move (v:=.int .i64 d1) s1)<|RQ.y (bT 12 c3) (Y.dS (v:=.bool (decide (d0.value ≥ d1))) rfl rfl rfl)<|dN true (.bool (decide (d0.value ≥ d1))) (vb rfl c3)<|RQ.nil<|ah ?_;rcases aB (decide (d0.value ≥ d1)) with c40|c40
   ·replace hm:=cF c40 hm;have aXP:=of_decide_eq_false c40;refine iH c40<|wp_skip<|ah<|wp_seq<|wp_seq<|au rfl<|aW (.int .i64 0)<|RQ.nil<|ah<|wp_block ?_;obtain ⟨K3,hK3,hm⟩ :∃K,K=(qE d0 d1 self)∧lS d0 d1 K (d0.data.length+1) 0=some r:=⟨_,rfl,hm⟩;refine dG (fun g f w'=>∃(i63:Int),f 0=.pointer (some ⟨qg,qh,none⟩)∧f 1=.int .i64 d1∧f 5=.int .i64 i63∧0≤i63∧Below w.heap.size w w'∧lS d0 d1 K3 g i63=some r) 0 (fun f w'=>f 0=.pointer (some ⟨qg,qh,none⟩)∧f 1=.int .i64 d1∧Below w.heap.size w w'∧qE d0 d1 self  = some r) (d0.data.length+1) ⟨0,s0,s1,rfl,(by omega),T,hm⟩ ?_ ?_
    ·rintro f w41 ⟨aPW,aPX,T,hm⟩;unfold qE at hm;refine dW (ah ?_);refine wp_seq<|wp_seq<|au rfl<|aW (.int .i64 0)<|RQ.nil<|ah<|wp_block ?_;obtain ⟨K4,hK4,hm⟩ :∃K,K=uy∧lQ d0 d1 self K (d0.kids.length+1) 0=some r:=⟨_,rfl,hm⟩;refine dG (fun g f w'=>∃(i43:Int),f 0=.pointer (some ⟨qg,qh,none⟩)∧f 1=.int .i64 d1∧f 6=.int .i64 i43∧0≤i43∧Below w.heap.size w w'∧lQ d0 d1 self K4 g i43=some r) 2 (fun f w'=>Below w.heap.size w w'∧uy  = some r) (d0.kids.length+1) ⟨0,aPW,aPX,rfl,(by omega),T,hm⟩ ?_ ?_
     ·rintro f w42 ⟨T,hm⟩;unfold uy at hm;refine dW (ah ?_);refine wp_seq<|au rfl<|aW (.bool true)<|RQ.nil<|ah<|wp_ret ?_
      cases hm
      exact (aV rfl rfl rfl ⟨rfl,T⟩)
     rintro g f w44 ⟨i43,aKG,aPY,aKH,a8_,T,hm⟩;rcases g with _|g
     ·simp only [lQ] at hm; cases hm
     obtain ⟨aPU,aPZ,hm⟩ :∃z,z=lQ d0 d1 self K4 g∧yY d0 d1 self z K4 i43=some r:=⟨_,rfl,hm⟩;unfold yY at hm;refine wp_seq<|wp_seq<|au rfl<|aT aKH<|aT aKG<|Du rfl<|gy 3 rfl<|gZ (.slice A2 d0.kids.length c2) rfl (cu (cellT T (eu 3 _ rfl)))<|yH rfl<|iq (.bool (decide (i43 < (d0.kids.length:Int))))<|RQ.nil<|ah ?_;rcases aB (decide (i43 < (d0.kids.length:Int))) with ZF|ZF
     ·replace hm:=cF ZF hm;have aXQ:=of_decide_eq_false ZF;refine iH ZF<|wp_exit ?_;exact (bQ (bQ (iW ⟨_,rfl,⟨T,(by rw [hK4] at hm; exact hm)⟩⟩)))
     replace hm:=cT ZF hm;have aXQ:=of_decide_eq_true ZF;refine ig ZF<|wp_skip<|ah<|wp_seq<|wp_block<|wp_seq<|cZ rfl<|aT aKG<|Du rfl<|gy 3 rfl<|gZ (.slice A2 d0.kids.length c2) rfl (bV (cellT T (eu 3 _ rfl)))<|aT aKH ?_;obtain ⟨x46,aKI,hm⟩:=bnd hm;obtain ⟨k47,aXR,aXS,aKI⟩:=aU aKI;obtain ⟨b53,o54,rfl,aP0⟩:=h2.addr (by omega);obtain ⟨bap,aAw,aXT⟩:=h2.el aKI;have aKJ:=aAw;obtain ⟨A55,n55,c55,A56,n56,Ui,rfl,⟨h55,r55⟩,⟨h56,r56⟩⟩:=(bG aAw);obtain ⟨rfl,q55⟩:=bI h55 r55;obtain ⟨rfl,q56⟩:=bI h56 r56;refine RQ.y rfl (Y.indexAddr (m:=k47) (sz:=4) rfl rfl aXR aXS (by kernel_rfl))<|aT aPY ?_;obtain ⟨y57,e58,hm⟩:=bnd hm;refine RQ.call rfl (qV rfl rfl) (by kernel_rfl) (v:=.bool y57) (bel (K:=fun _=>True) fun w' hb'=>(ih x46 d1 _ (by rw [← hself]; exact e58) _ w' (l9 aK aP0 aKJ aXT (Tt T hb'))))<|RQ.y rfl (Y.not (b':=(!y57)) rfl rfl)<|RQ.nil ?_;intro w59 as1;have awi:=as1.size;have T:=Tt T as1;refine ah ?_;rcases aB y57 with Ze|Ze
     ·replace hm:=cF Ze hm;refine dX rfl (gQ rfl Ze rfl)<|wp_seq<|au rfl<|aW (.bool false)<|RQ.nil<|ah<|wp_ret ?_
      cases hm
      exact (bC (aF (aF (jG (bC (aF (aV rfl rfl rfl ⟨rfl,T⟩)))))))
     replace hm:=cT Ze hm;refine gU rfl (gQ rfl Ze rfl)<|wp_skip ?_;refine eF (ah ?_);refine au rfl<|aT aKH<|RQ.y rfl (Y.dS rfl rfl (bn (m:=i43) (by omega)))<|aW (.int .i64 (i43+1))<|RQ.nil ?_;exact (ah ⟨g,_,Nat.lt_succ_self _,rfl,⟨(i43+1),aKG,aPY,rfl,(by omega),T,(by rw [← aPZ]; exact hm)⟩⟩)
    rintro g f w64 ⟨i63,aGs,s1_3,aKK,a9a,T,hm⟩;rcases g with _|g
    ·simp only [lS] at hm; cases hm
    obtain ⟨aj2,ag9,hm⟩ :∃z,z=lS d0 d1 K3 g∧yZ d0 d1 z K3 i63=some r:=⟨_,rfl,hm⟩;unfold yZ at hm;refine wp_seq<|wp_seq<|au rfl<|aT aKK<|aT aGs<|Du rfl<|gy 2 rfl<|gZ (.slice A1 d0.data.length c1) rfl (cu (cellT T (eu 2 _ rfl)))<|yH rfl<|iq (.bool (decide (i63 < (d0.data.length:Int))))<|RQ.nil<|ah ?_;rcases aB (decide (i63 < (d0.data.length:Int))) with c65|c65
    ·replace hm:=cF c65 hm;have aKL:=of_decide_eq_false c65;refine iH c65<|wp_exit ?_;exact (bQ (bQ (iW ⟨_,rfl,⟨aGs,s1_3,T,(by rw [hK3] at hm; exact hm)⟩⟩)))
    replace hm:=cT c65 hm;have aKL:=of_decide_eq_true c65;refine ig c65<|wp_skip<|ah<|wp_seq<|wp_block<|wp_seq<|au rfl<|aT aGs<|Du rfl<|gy 2 rfl<|gZ (.slice A1 d0.data.length c1) rfl (cu (cellT T (eu 2 _ rfl)))<|aT aKK ?_;obtain ⟨x66,aKM,hm⟩:=bnd hm;obtain ⟨k67,aXU,aXV,aKM⟩:=aU aKM;obtain ⟨b73,o74,rfl,a9b⟩:=h1.addr (by omega);obtain ⟨bas,aAx,aXW⟩:=h1.el aKM;have aXX:=aAx;obtain rfl:=aAx;refine RQ.y rfl (Y.indexAddr (m:=k67) (sz:=1) rfl rfl aXU aXV (by kernel_rfl))<|gZ (.int .i64 x66) rfl (cu (cellT T (aXW 0 _ rfl)))<|aT s1_3<|iq (.bool (decide (x66 ≥ d1)))<|RQ.nil<|ah ?_;rcases aB (decide (x66 ≥ d1)) with c75|c75
    ·replace hm:=cF c75 hm;have aXY:=of_decide_eq_false c75;refine iH c75<|wp_skip ?_;refine eF (ah ?_);refine au rfl<|aT aKK<|RQ.y rfl (Y.dS rfl rfl (bn (m:=i63) (by omega)))<|aW (.int .i64 (i63+1))<|RQ.nil ?_;exact (ah ⟨g,_,Nat.lt_succ_self _,rfl,⟨(i63+1),aGs,s1_3,rfl,(by omega),T,(by rw [← ag9]; exact hm)⟩⟩)
    replace hm:=cT c75 hm;have aXY:=of_decide_eq_true c75;refine ig c75<|wp_seq<|au rfl<|aW (.bool false)<|RQ.nil<|ah<|wp_ret ?_
    cases hm
    exact (bC (aF (aF (jG (bC (aF (aV rfl rfl rfl ⟨rfl,T⟩)))))))
   replace hm:=cT c40 hm;have aXP:=of_decide_eq_true c40;refine ig c40<|wp_seq<|au rfl<|aW (.bool false)<|RQ.nil<|ah<|wp_ret ?_
   cases hm
   exact (aF (aV rfl rfl rfl ⟨rfl,T⟩))
noncomputable def uz:Option Bool:=
  some true
noncomputable def zf (d0:dY) (eU:Int→Option Bool) (K1:Option Bool) (i6:Int):Option Bool:=
  (bif (decide (i6 < (d0.defs.length:Int))) then ((fC d0.defs i6).bind fun x9=>((Am x9).bind fun y20=>(bif y20 then ((fC d0.defs i6).bind fun x25=>((ji (SizeOf.sizeOf x25) x25 (d0.defs.length:Int)).bind fun y34=>(bif y34 then (eU (i6+1)) else some false))) else some false))) else (K1))
noncomputable def lT (d0:dY) (K1:Option Bool):Nat→Int→Option Bool
  |0,_=>none
  |g+1,i6=>zf d0 (lT d0 K1 g) K1 i6
noncomputable def Dx (d0:dY):Option Bool:=
  (bif (ni (d0.defs.length:Int) 1 24) then (lT d0 uz (d0.defs.length+1) 0) else some false)
set_option maxHeartbeats 2000000 in
theorem adQ (d0:dY) (r:Bool) (hm:Dx d0=some r) (v0:Value) (w:World) (hv0:Pt iI w v0 d0) :
    Calls Tryz.prog 75 #[v0] w fun e w'=>e=.returned (.bool r)∧Below w.heap.size w w':=by
  obtain ⟨qg,qh,lg,rfl,qm,jR,eu⟩:=hv0;have qB:=jR;obtain ⟨A1,n1,c1,rfl,⟨h1,r1⟩⟩:=jR;obtain ⟨rfl,q1⟩:=bI h1 r1;have T:=Below.refl w.heap.size w;unfold Dx at hm;refine enter 43 Tryz.func75 rfl rfl rfl ?_;intro f hf;have s0:f 0=.pointer (some ⟨qg,qh,none⟩):=hf 0 _ rfl;refine wp_seq<|au rfl<|aW (.bool false)<|RQ.nil<|ah<|wp_seq<|wp_seq<|cZ rfl<|aT s0<|Du rfl<|gy 0 rfl<|gZ (.slice A1 d0.defs.length c1) rfl (bV (cellT T (eu 0 _ rfl)))<|yH rfl<|RQ.call rfl (Vu rfl rfl rfl) (by kernel_rfl) (v:=.bool (ni (d0.defs.length:Int) 1 24)) (bel (K:=fun _=>True) fun w' hb'=>(KR (mD (d0.defs.length:Int) 1 24 w')))<|RQ.y rfl (Y.not (b':=(!(ni (d0.defs.length:Int) 1 24))) rfl rfl)<|RQ.nil ?_;intro w2 hb3;have axz:=hb3.size;have T:=Tt T hb3;refine ah ?_;rcases aB (ni (d0.defs.length:Int) 1 24) with c4|c4
  ·replace hm:=cF c4 hm;refine dX rfl (gQ rfl c4 rfl)<|wp_seq<|au rfl<|aW (.bool false)<|RQ.nil<|ah<|wp_ret ?_
   cases hm
   exact (aF (aV rfl rfl rfl ⟨rfl,T⟩))
  replace hm:=cT c4 hm;refine gU rfl (gQ rfl c4 rfl)<|wp_skip<|ah<|wp_seq<|wp_seq<|au rfl<|aW (.int .i64 0)<|RQ.nil<|ah<|wp_block ?_;obtain ⟨K1,hK1,hm⟩ :∃K,K=uz∧lT d0 K (d0.defs.length+1) 0=some r:=⟨_,rfl,hm⟩;refine dG (fun g f w'=>∃(i6:Int),f 0=.pointer (some ⟨qg,qh,none⟩)∧f 3=.int .i64 i6∧0≤i6∧Below w.heap.size w w'∧lT d0 K1 g i6=some r) 0 (fun f w'=>Below w.heap.size w w'∧uz  = some r) (d0.defs.length+1) ⟨0,s0,rfl,(by omega),T,hm⟩ ?_ ?_
  ·rintro f w5 ⟨T,hm⟩;unfold uz at hm;refine dW (ah ?_);refine wp_seq<|au rfl<|aW (.bool true)<|RQ.nil<|ah<|wp_ret ?_
   cases hm
   exact (aV rfl rfl rfl ⟨rfl,T⟩)
  rintro g f w7 ⟨i6,dQ,jE,aAt,T,hm⟩;rcases g with _|g
  ·simp only [lT] at hm; cases hm
  obtain ⟨eU,d_,hm⟩ :∃z,z=lT d0 K1 g∧zf d0 z K1 i6=some r:=⟨_,rfl,hm⟩;unfold zf at hm;refine wp_seq<|wp_seq<|au rfl<|aT jE<|aT dQ<|Du rfl<|gy 0 rfl<|gZ (.slice A1 d0.defs.length c1) rfl (cu (cellT T (eu 0 _ rfl)))<|yH rfl<|iq (.bool (decide (i6 < (d0.defs.length:Int))))<|RQ.nil<|ah ?_;rcases aB (decide (i6 < (d0.defs.length:Int))) with c8|c8
  ·replace hm:=cF c8 hm;have pc8:=of_decide_eq_false c8;refine iH c8<|wp_exit ?_;exact (bQ (bQ (iW ⟨_,rfl,⟨T,(by rw [hK1] at hm; exact hm)⟩⟩)))
  replace hm:=cT c8 hm;have pc8:=of_decide_eq_true c8;refine ig c8<|wp_skip<|ah<|wp_seq<|wp_block<|wp_seq<|FC (by kernel_rfl) (by kernel_rfl)<|aT dQ<|Du rfl<|gy 0 rfl<|gZ (.slice A1 d0.defs.length c1) rfl (bV (cellT T (eu 0 _ rfl)))<|aT jE ?_;obtain ⟨x9,NQ,hm⟩:=bnd hm;obtain ⟨k10,ag7,ag8,NQ⟩:=aU NQ;obtain ⟨b16,o17,rfl,abj⟩:=h1.addr (by omega);obtain ⟨aAu,Dw,KU⟩:=h1.el NQ;have WT:=Dw;obtain ⟨A18,n18,c18,A19,n19,c19,rfl,⟨h18,r18⟩,⟨h19,r19⟩⟩:=(bG Dw);obtain ⟨rfl,q18⟩:=bI h18 r18;obtain ⟨rfl,q19⟩:=bI h19 r19;refine RQ.y rfl (Y.indexAddr (m:=k10) (sz:=4) rfl rfl ag7 ag8 (by kernel_rfl)) ?_;obtain ⟨y20,e21,hm⟩:=bnd hm;refine RQ.call rfl (qZ rfl) (by kernel_rfl) (v:=.bool y20) (bel (K:=fun _=>True) fun w' hb'=>(aat x9 _ e21 _ w' (l9 aK abj WT KU (Tt T hb'))))<|RQ.y rfl (Y.not (b':=(!y20)) rfl rfl)<|dF (.bool (!y20)) ?_;rcases aB y20 with EC|EC
  ·replace hm:=cF EC hm;iterate 13 refine RQ.skip (Gq (dj:=28) rfl (gQ rfl EC rfl) rfl) ?_
   refine dN true (.bool true) (gQ rfl EC rfl)<|RQ.nil ?_;intro w23 V8;have awj:=V8.size;have T:=Tt T V8;refine ah<|dX rfl rfl<|wp_seq<|au rfl<|aW (.bool false)<|RQ.nil<|ah<|wp_ret ?_
   cases hm
   exact (bC (aF (aF (jG (bC (aF (aV rfl rfl rfl ⟨rfl,T⟩)))))))
  replace hm:=cT EC hm;refine RQ.y (eG (dj:=28) rfl (gQ rfl EC rfl)) (Y.move (v:=.pointer (some ⟨qg,qh,none⟩)) dQ)<|RQ.y (eG (dj:=28) rfl (gQ rfl EC rfl)) (Y.nilCheck rfl)<|RQ.y (eG (dj:=28) rfl (gQ rfl EC rfl)) (Y.fieldAddr (off:=0) rfl (by kernel_rfl))<|RQ.y (eG (dj:=28) rfl (gQ rfl EC rfl)) (Y.load (v:=.slice (some ⟨b16,o17,none⟩) d0.defs.length c1) rfl (by kernel_rfl) (bV (cellT T (eu 0 _ rfl))))<|RQ.y (eG (dj:=28) rfl (gQ rfl EC rfl)) (Y.move (v:=.int .i64 i6) jE) ?_;obtain ⟨x25,hx28,hm⟩:=bnd hm;obtain ⟨k26,aKN,aKO,hx28⟩:=aU hx28;obtain ⟨aXZ,ag_,hc31⟩:=h1.el hx28;have aAy:=ag_;obtain ⟨A32,n32,c32,A33,n33,LH,rfl,⟨h32,r32⟩,⟨h33,r33⟩⟩:=(bG ag_);obtain ⟨rfl,q32⟩:=bI h32 r32;obtain ⟨rfl,q33⟩:=bI h33 r33;refine RQ.y (eG (dj:=28) rfl (gQ rfl EC rfl)) (Y.indexAddr (m:=k26) (sz:=4) rfl rfl aKN aKO (by kernel_rfl))<|RQ.y (eG (dj:=28) rfl (gQ rfl EC rfl)) (Y.move (v:=.pointer (some ⟨qg,qh,none⟩)) dQ)<|RQ.y (eG (dj:=28) rfl (gQ rfl EC rfl)) (Y.nilCheck rfl)<|RQ.y (eG (dj:=28) rfl (gQ rfl EC rfl)) (Y.fieldAddr (off:=0) rfl (by kernel_rfl))<|RQ.y (eG (dj:=28) rfl (gQ rfl EC rfl)) (Y.load (v:=.slice (some ⟨b16,o17,none⟩) d0.defs.length c1) rfl (by kernel_rfl) (bV (cellT T (eu 0 _ rfl))))<|RQ.y (eG (dj:=28) rfl (gQ rfl EC rfl)) (Y.len (by kernel_rfl) rfl) ?_;obtain ⟨y34,e35,hm⟩:=bnd hm;refine RQ.call (eG (dj:=28) rfl (gQ rfl EC rfl)) (qV rfl rfl) (by kernel_rfl) (v:=.bool y34) (bel (K:=fun _=>True) fun w' hb'=>(SE (SizeOf.sizeOf x25) x25 (d0.defs.length:Int) _ e35 _ w' (l9 aK abj aAy hc31 (Tt T hb'))))<|RQ.y (eG (dj:=28) rfl (gQ rfl EC rfl)) (Y.not (b':=(!y34)) rfl rfl)<|dN false (.bool (!y34)) (gQ rfl EC rfl)<|RQ.nil ?_;intro w36 ap1;have aP1:=ap1.size;have T:=Tt T ap1;refine ah ?_;rcases aB y34 with GK|GK
  ·replace hm:=cF GK hm;refine dX rfl (gQ rfl GK rfl)<|wp_seq<|au rfl<|aW (.bool false)<|RQ.nil<|ah<|wp_ret ?_
   cases hm
   exact (bC (aF (aF (jG (bC (aF (aV rfl rfl rfl ⟨rfl,T⟩)))))))
  replace hm:=cT GK hm;refine gU rfl (gQ rfl GK rfl)<|wp_skip ?_;refine eF (ah ?_);refine au rfl<|aT jE<|RQ.y rfl (Y.dS rfl rfl (bn (m:=i6) (by omega)))<|aW (.int .i64 (i6+1))<|RQ.nil ?_;exact (ah ⟨g,_,Nat.lt_succ_self _,rfl,⟨(i6+1),dQ,rfl,(by omega),T,(by rw [← d_]; exact hm)⟩⟩)
noncomputable def uD:Option Bool:=
  some true
noncomputable def zh (d0:dY) (eU:Int→Option Bool) (K1:Option Bool) (i8:Int):Option Bool:=
  (bif (decide (i8 < (d0.defs.length:Int))) then ((fC d0.defs i8).bind fun x11=>((ny (SizeOf.sizeOf x11) x11).bind fun y22=>(bif y22 then (eU (i8+1)) else some false))) else (K1))
noncomputable def lU (d0:dY) (K1:Option Bool):Nat→Int→Option Bool
  |0,_=>none
  |g+1,i8=>zh d0 (lU d0 K1 g) K1 i8
noncomputable def Dy (d0:dY):Option Bool:=
  ((Dx d0).bind fun y2=>(bif y2 then (lU d0 uD (d0.defs.length+1) 0) else some false))
set_option maxHeartbeats 2000000 in
theorem adR (d0:dY) (r:Bool) (hm:Dy d0=some r) (v0:Value) (w:World) (hv0:Pt iI w v0 d0) :
    Calls Tryz.prog 45 #[v0] w fun e w'=>e=.returned (.bool r)∧Below w.heap.size w w':=by
  obtain ⟨qg,qh,lg,rfl,qm,jR,eu⟩:=hv0;have qB:=jR;obtain ⟨A1,n1,c1,rfl,⟨h1,r1⟩⟩:=jR;obtain ⟨rfl,q1⟩:=bI h1 r1;have T:=Below.refl w.heap.size w;unfold Dy at hm;refine enter 24 Tryz.func45 rfl rfl rfl ?_;intro f hf;have s0:f 0=.pointer (some ⟨qg,qh,none⟩):=hf 0 _ rfl;refine wp_seq<|au rfl<|aW (.bool false)<|RQ.nil<|ah<|wp_seq<|wp_seq<|cZ rfl<|aT s0 ?_;obtain ⟨y2,e3,hm⟩:=bnd hm;refine RQ.call rfl (qZ rfl) (by kernel_rfl) (v:=.bool y2) (bel (K:=fun _=>True) fun w' hb'=>(adQ d0 _ e3 _ w' (l9 jP qm qB eu (Tt T hb'))))<|RQ.y rfl (Y.not (b':=(!y2)) rfl rfl)<|RQ.nil ?_;intro w4 hb5;have aha:=hb5.size;have T:=Tt T hb5;refine ah ?_;rcases aB y2 with c6|c6
  ·replace hm:=cF c6 hm;refine dX rfl (gQ rfl c6 rfl)<|wp_seq<|au rfl<|aW (.bool false)<|RQ.nil<|ah<|wp_ret ?_
   cases hm
   exact (aF (aV rfl rfl rfl ⟨rfl,T⟩))
  replace hm:=cT c6 hm;refine gU rfl (gQ rfl c6 rfl)<|wp_skip<|ah<|wp_seq<|wp_seq<|au rfl<|aW (.int .i64 0)<|RQ.nil<|ah<|wp_block ?_;obtain ⟨K1,hK1,hm⟩ :∃K,K=uD∧lU d0 K (d0.defs.length+1) 0=some r:=⟨_,rfl,hm⟩;refine dG (fun g f w'=>∃(i8:Int),f 0=.pointer (some ⟨qg,qh,none⟩)∧f 3=.int .i64 i8∧0≤i8∧Below w.heap.size w w'∧lU d0 K1 g i8=some r) 0 (fun f w'=>Below w.heap.size w w'∧uD  = some r) (d0.defs.length+1) ⟨0,s0,rfl,(by omega),T,hm⟩ ?_ ?_
  ·rintro f w7 ⟨T,hm⟩;unfold uD at hm;refine dW (ah ?_);refine wp_seq<|au rfl<|aW (.bool true)<|RQ.nil<|ah<|wp_ret ?_
   cases hm
   exact (aV rfl rfl rfl ⟨rfl,T⟩)
  rintro g f w9 ⟨i8,dQ,jE,aAt,T,hm⟩;rcases g with _|g
  ·simp only [lU] at hm; cases hm
  obtain ⟨eU,d_,hm⟩ :∃z,z=lU d0 K1 g∧zh d0 z K1 i8=some r:=⟨_,rfl,hm⟩;unfold zh at hm;refine wp_seq<|wp_seq<|au rfl<|aT jE<|aT dQ<|Du rfl<|gy 0 rfl<|gZ (.slice A1 d0.defs.length c1) rfl (cu (cellT T (eu 0 _ rfl)))<|yH rfl<|iq (.bool (decide (i8 < (d0.defs.length:Int))))<|RQ.nil<|ah ?_;rcases aB (decide (i8 < (d0.defs.length:Int))) with c10|c10
  ·replace hm:=cF c10 hm;have aAz:=of_decide_eq_false c10;refine iH c10<|wp_exit ?_;exact (bQ (bQ (iW ⟨_,rfl,⟨T,(by rw [hK1] at hm; exact hm)⟩⟩)))
  replace hm:=cT c10 hm;have aAz:=of_decide_eq_true c10;refine ig c10<|wp_skip<|ah<|wp_seq<|wp_block<|wp_seq<|cZ rfl<|aT dQ<|Du rfl<|gy 0 rfl<|gZ (.slice A1 d0.defs.length c1) rfl (bV (cellT T (eu 0 _ rfl)))<|aT jE ?_;obtain ⟨x11,as2,hm⟩:=bnd hm;obtain ⟨k12,aKP,aKQ,as2⟩:=aU as2;obtain ⟨b18,o19,rfl,aI2⟩:=h1.addr (by omega);obtain ⟨aX0,ahb,hc17⟩:=h1.el as2;have aAA:=ahb;obtain ⟨A20,n20,c20,A21,n21,c21,rfl,⟨h20,r20⟩,⟨h21,r21⟩⟩:=(bG ahb);obtain ⟨rfl,q20⟩:=bI h20 r20;obtain ⟨rfl,q21⟩:=bI h21 r21;refine RQ.y rfl (Y.indexAddr (m:=k12) (sz:=4) rfl rfl aKP aKQ (by kernel_rfl)) ?_;obtain ⟨y22,e23,hm⟩:=bnd hm;refine RQ.call rfl (qZ rfl) (by kernel_rfl) (v:=.bool y22) (bel (K:=fun _=>True) fun w' hb'=>(NP (SizeOf.sizeOf x11) x11 _ e23 _ w' (l9 aK aI2 aAA hc17 (Tt T hb'))))<|RQ.y rfl (Y.not (b':=(!y22)) rfl rfl)<|RQ.nil ?_;intro w24 PI;have afl:=PI.size;have T:=Tt T PI;refine ah ?_;rcases aB y22 with Jj|Jj
  ·replace hm:=cF Jj hm;refine dX rfl (gQ rfl Jj rfl)<|wp_seq<|au rfl<|aW (.bool false)<|RQ.nil<|ah<|wp_ret ?_
   cases hm
   exact (bC (aF (aF (jG (bC (aF (aV rfl rfl rfl ⟨rfl,T⟩)))))))
  replace hm:=cT Jj hm;refine gU rfl (gQ rfl Jj rfl)<|wp_skip ?_;refine eF (ah ?_);refine au rfl<|aT jE<|RQ.y rfl (Y.dS rfl rfl (bn (m:=i8) (by omega)))<|aW (.int .i64 (i8+1))<|RQ.nil ?_;exact (ah ⟨g,_,Nat.lt_succ_self _,rfl,⟨(i8+1),dQ,rfl,(by omega),T,(by rw [← d_]; exact hm)⟩⟩)
noncomputable def oW:Option Bool:=
  some true
noncomputable def tJ (d1:ay) (d2:Int) (eU:Int→Option Bool) (K1:Option Bool) (i27:Int):Option Bool:=
  (bif (decide (i27 < (d1.env.length:Int))) then ((fC d1.env i27).bind fun x30=>((ck (d2 - 1)).bind fun s39=>(bif (ni x30 0 s39) then (eU (i27+1)) else some false))) else (K1))
noncomputable def jk (d1:ay) (d2:Int) (K1:Option Bool):Nat→Int→Option Bool
  |0,_=>none
  |g+1,i27=>tJ d1 d2 (jk d1 d2 K1 g) K1 i27
noncomputable def qF (d0:dY) (d1:ay) (d2:Int):Option Bool:=
  ((D7 d1.term).bind fun y5=>(bif y5 then ((ny (SizeOf.sizeOf d1.term) d1.term).bind fun tK=>(bif tK then ((ji (SizeOf.sizeOf d1.term) d1.term (d0.defs.length:Int)).bind fun GI=>(bif GI then ((oG (SizeOf.sizeOf d1.term) d1.term (d1.env.length:Int)).bind fun y20=>(bif y20 then some false else (bif (decide ((d1.env.length:Int) > 256)) then some false else (jk d1 d2 oW (d1.env.length+1) 0)))) else some false)) else some false)) else some false))
set_option maxHeartbeats 2000000 in
theorem EF (d0:dY) (d1:ay) (d2:Int) (r:Bool) (hm:qF d0 d1 d2=some r) (v0:Value) (v1:Value) (w:World) (hv0:Pt iI w v0 d0) (hv1:Pt dM w v1 d1) :
    Calls Tryz.prog 46 #[v0,v1,.int .i64 d2] w fun e w'=>e=.returned (.bool r)∧Below w.heap.size w w':=by
  obtain ⟨qg,qh,lg,rfl,qm,jR,eu⟩:=hv0;have qB:=jR;obtain ⟨A1,n1,c1,rfl,⟨h1,r1⟩⟩:=jR;obtain ⟨rfl,q1⟩:=bI h1 r1;obtain ⟨P_,TU,SG,rfl,V9,KW,vk⟩:=hv1;have ahc:=KW;obtain ⟨A2,n2,c2,A3,n3,c3,A4,n4,c4,rfl,⟨h2,r2⟩,⟨h3,r3⟩,⟨h4,r4⟩⟩:=KW;obtain ⟨rfl,q2⟩:=bI h2 r2;obtain ⟨rfl,q3⟩:=bI h3 r3;obtain ⟨rfl,q4⟩:=bI h4 r4;have T:=Below.refl w.heap.size w;unfold qF at hm;refine enter 71 Tryz.func46 rfl rfl rfl ?_;intro f hf;have s0:f 0=.pointer (some ⟨qg,qh,none⟩):=hf 0 _ rfl;have s1:f 1=.pointer (some ⟨P_,TU,none⟩):=hf 1 _ rfl;have s2:f 2=.int .i64 d2:=hf 2 _ rfl;refine wp_seq<|au rfl<|aW (.bool false)<|RQ.nil<|ah<|wp_seq<|wp_seq<|FC (by kernel_rfl) (by kernel_rfl)<|aT s1<|Du rfl<|gy 0 rfl ?_;obtain ⟨y5,e6,hm⟩:=bnd hm;refine RQ.call rfl (qZ rfl) (by kernel_rfl) (v:=.bool y5) (bel (K:=fun _=>True) fun w' hb'=>(WS d1.term _ e6 _ w' (NG (R:=bf) aK V9 (pre:=[]) (cs:=[.int .i64 d1.term.kind,.int .i64 d1.term.value,.slice A2 d1.term.data.length c2,.slice A3 d1.term.kids.length c3]) (post:=[.slice A4 d1.env.length c4]) (dR ⟨_,_,_,_,_,_,rfl,⟨h2,r2⟩,⟨h3,r3⟩⟩) vk (Tt T hb'))))<|RQ.y rfl (Y.not (b':=(!y5)) rfl rfl)<|dF (.bool (!y5)) ?_;rcases aB y5 with c7|c7
  ·replace hm:=cF c7 hm;iterate 5 refine RQ.skip (Gq (dj:=13) rfl (gQ rfl c7 rfl) rfl) ?_
   refine dN true (.bool true) (gQ rfl c7 rfl)<|dF (.bool true) ?_;iterate 10 refine RQ.skip (zZ 20) ?_
   refine dN true (.bool true) rfl<|dF (.bool true) ?_;iterate 9 refine RQ.skip (zZ 32) ?_
   refine dN true (.bool true) rfl<|dF (.bool true) ?_;iterate 6 refine RQ.skip (zZ 43) ?_
   refine dN true (.bool true) rfl<|RQ.nil ?_;intro w8 Zc;have aAB:=Zc.size;have T:=Tt T Zc;refine ah<|dX rfl rfl<|wp_seq<|au rfl<|aW (.bool false)<|RQ.nil<|ah<|wp_ret ?_
   cases hm
   exact (aF (aV rfl rfl rfl ⟨rfl,T⟩))
  replace hm:=cT c7 hm;refine RQ.y (eG (dj:=13) rfl (gQ rfl c7 rfl)) (Y.move (v:=.pointer (some ⟨P_,TU,none⟩)) s1)<|RQ.y (eG (dj:=13) rfl (gQ rfl c7 rfl)) (Y.nilCheck rfl)<|RQ.y (eG (dj:=13) rfl (gQ rfl c7 rfl)) (Y.fieldAddr (off:=0) rfl (by kernel_rfl)) ?_;obtain ⟨tK,e11,hm⟩:=bnd hm;refine RQ.call (eG (dj:=13) rfl (gQ rfl c7 rfl)) (qZ rfl) (by kernel_rfl) (v:=.bool tK) (bel (K:=fun _=>True) fun w' hb'=>(NP (SizeOf.sizeOf d1.term) d1.term _ e11 _ w' (NG (R:=bf) aK V9 (pre:=[]) (cs:=[.int .i64 d1.term.kind,.int .i64 d1.term.value,.slice A2 d1.term.data.length c2,.slice A3 d1.term.kids.length c3]) (post:=[.slice A4 d1.env.length c4]) (dR ⟨_,_,_,_,_,_,rfl,⟨h2,r2⟩,⟨h3,r3⟩⟩) vk (Tt T hb'))))<|RQ.y (eG (dj:=13) rfl (gQ rfl c7 rfl)) (Y.not (b':=(!tK)) rfl rfl)<|dN false (.bool (!tK)) (gQ rfl c7 rfl)<|dF (.bool (!tK)) ?_;rcases aB tK with c12|c12
  ·replace hm:=cF c12 hm;iterate 10 refine RQ.skip (Gq (dj:=20) rfl (gQ rfl c12 rfl) rfl) ?_
   refine dN true (.bool true) (gQ rfl c12 rfl)<|dF (.bool true) ?_;iterate 9 refine RQ.skip (zZ 32) ?_
   refine dN true (.bool true) rfl<|dF (.bool true) ?_;iterate 6 refine RQ.skip (zZ 43) ?_
   refine dN true (.bool true) rfl<|RQ.nil ?_;intro w13 LQ;have apZ:=LQ.size;have T:=Tt T LQ;refine ah<|dX rfl rfl<|wp_seq<|au rfl<|aW (.bool false)<|RQ.nil<|ah<|wp_ret ?_
   cases hm
   exact (aF (aV rfl rfl rfl ⟨rfl,T⟩))
  replace hm:=cT c12 hm;refine RQ.y (eG (dj:=20) rfl (gQ rfl c12 rfl)) (Y.move (v:=.pointer (some ⟨P_,TU,none⟩)) s1)<|RQ.y (eG (dj:=20) rfl (gQ rfl c12 rfl)) (Y.nilCheck rfl)<|RQ.y (eG (dj:=20) rfl (gQ rfl c12 rfl)) (Y.fieldAddr (off:=0) rfl (by kernel_rfl))<|RQ.y (eG (dj:=20) rfl (gQ rfl c12 rfl)) (Y.move (v:=.pointer (some ⟨qg,qh,none⟩)) s0)<|RQ.y (eG (dj:=20) rfl (gQ rfl c12 rfl)) (Y.nilCheck rfl)<|RQ.y (eG (dj:=20) rfl (gQ rfl c12 rfl)) (Y.fieldAddr (off:=0) rfl (by kernel_rfl))<|RQ.y (eG (dj:=20) rfl (gQ rfl c12 rfl)) (Y.load (v:=.slice A1 d0.defs.length c1) rfl (by kernel_rfl) (bV (cellT T (eu 0 _ rfl))))<|RQ.y (eG (dj:=20) rfl (gQ rfl c12 rfl)) (Y.len (by kernel_rfl) rfl) ?_;obtain ⟨GI,e16,hm⟩:=bnd hm;refine RQ.call (eG (dj:=20) rfl (gQ rfl c12 rfl)) (qV rfl rfl) (by kernel_rfl) (v:=.bool GI) (bel (K:=fun _=>True) fun w' hb'=>(SE (SizeOf.sizeOf d1.term) d1.term (d0.defs.length:Int) _ e16 _ w' (NG (R:=bf) aK V9 (pre:=[]) (cs:=[.int .i64 d1.term.kind,.int .i64 d1.term.value,.slice A2 d1.term.data.length c2,.slice A3 d1.term.kids.length c3]) (post:=[.slice A4 d1.env.length c4]) (dR ⟨_,_,_,_,_,_,rfl,⟨h2,r2⟩,⟨h3,r3⟩⟩) vk (Tt T hb'))))<|RQ.y (eG (dj:=20) rfl (gQ rfl c12 rfl)) (Y.not (b':=(!GI)) rfl rfl)<|dN false (.bool (!GI)) (gQ rfl c12 rfl)<|dF (.bool (!GI)) ?_;rcases aB GI with c17|c17
  ·replace hm:=cF c17 hm;iterate 9 refine RQ.skip (Gq (dj:=32) rfl (gQ rfl c17 rfl) rfl) ?_
   refine dN true (.bool true) (gQ rfl c17 rfl)<|dF (.bool true) ?_;iterate 6 refine RQ.skip (zZ 43) ?_
   refine dN true (.bool true) rfl<|RQ.nil ?_;intro w18 EP;have ahd:=EP.size;have T:=Tt T EP;refine ah<|dX rfl rfl<|wp_seq<|au rfl<|aW (.bool false)<|RQ.nil<|ah<|wp_ret ?_
   cases hm
   exact (aF (aV rfl rfl rfl ⟨rfl,T⟩))
  replace hm:=cT c17 hm;refine RQ.y (eG (dj:=32) rfl (gQ rfl c17 rfl)) (Y.move (v:=.pointer (some ⟨P_,TU,none⟩)) s1)<|RQ.y (eG (dj:=32) rfl (gQ rfl c17 rfl)) (Y.nilCheck rfl)<|RQ.y (eG (dj:=32) rfl (gQ rfl c17 rfl)) (Y.fieldAddr (off:=0) rfl (by kernel_rfl))<|RQ.y (eG (dj:=32) rfl (gQ rfl c17 rfl)) (Y.move (v:=.pointer (some ⟨P_,TU,none⟩)) s1)<|RQ.y (eG (dj:=32) rfl (gQ rfl c17 rfl)) (Y.nilCheck rfl)<|RQ.y (eG (dj:=32) rfl (gQ rfl c17 rfl)) (Y.fieldAddr (off:=4) rfl (by kernel_rfl))<|RQ.y (eG (dj:=32) rfl (gQ rfl c17 rfl)) (Y.load (v:=.slice A4 d1.env.length c4) rfl (by kernel_rfl) (bV (cellT T (vk 4 _ rfl))))<|RQ.y (eG (dj:=32) rfl (gQ rfl c17 rfl)) (Y.len (by kernel_rfl) rfl) ?_;obtain ⟨y20,e21,hm⟩:=bnd hm;refine RQ.call (eG (dj:=32) rfl (gQ rfl c17 rfl)) (qV rfl rfl) (by kernel_rfl) (v:=.bool y20) (bel (K:=fun _=>True) fun w' hb'=>(P9 (SizeOf.sizeOf d1.term) d1.term (d1.env.length:Int) _ e21 _ w' (NG (R:=bf) aK V9 (pre:=[]) (cs:=[.int .i64 d1.term.kind,.int .i64 d1.term.value,.slice A2 d1.term.data.length c2,.slice A3 d1.term.kids.length c3]) (post:=[.slice A4 d1.env.length c4]) (dR ⟨_,_,_,_,_,_,rfl,⟨h2,r2⟩,⟨h3,r3⟩⟩) vk (Tt T hb'))))<|dN false (.bool y20) (gQ rfl c17 rfl)<|dF (.bool y20) ?_;rcases aB y20 with EC|EC
  ·replace hm:=cF EC hm;refine RQ.y (bT 43 EC) (Y.move (v:=.pointer (some ⟨P_,TU,none⟩)) s1)<|RQ.y (bT 43 EC) (Y.nilCheck rfl)<|RQ.y (bT 43 EC) (Y.fieldAddr (off:=4) rfl (by kernel_rfl))<|RQ.y (bT 43 EC) (Y.load (v:=.slice A4 d1.env.length c4) rfl (by kernel_rfl) (bV (cellT T (vk 4 _ rfl))))<|RQ.y (bT 43 EC) (Y.len (by kernel_rfl) rfl)<|RQ.y (bT 43 EC) (Y.dS (v:=.bool (decide ((d1.env.length:Int) > 256))) rfl rfl rfl)<|dN false (.bool (decide ((d1.env.length:Int) > 256))) (vb rfl EC)<|RQ.nil ?_;intro w23 V8;have awj:=V8.size;have T:=Tt T V8;refine ah ?_;rcases aB (decide ((d1.env.length:Int) > 256)) with c25|c25
   ·replace hm:=cF c25 hm;have pc25:=of_decide_eq_false c25;refine iH c25<|wp_skip<|ah<|wp_seq<|wp_seq<|au rfl<|aW (.int .i64 0)<|RQ.nil<|ah<|wp_block ?_;obtain ⟨K1,hK1,hm⟩ :∃K,K=oW∧jk d1 d2 K (d1.env.length+1) 0=some r:=⟨_,rfl,hm⟩;refine dG (fun g f w'=>∃(i27:Int),f 1=.pointer (some ⟨P_,TU,none⟩)∧f 2=.int .i64 d2∧f 7=.int .i64 i27∧0≤i27∧Below w.heap.size w w'∧jk d1 d2 K1 g i27=some r) 0 (fun f w'=>Below w.heap.size w w'∧oW  = some r) (d1.env.length+1) ⟨0,s1,s2,rfl,(by omega),T,hm⟩ ?_ ?_
    ·rintro f PS ⟨T,hm⟩;unfold oW at hm;refine dW (ah ?_);refine wp_seq<|au rfl<|aW (.bool true)<|RQ.nil<|ah<|wp_ret ?_
     cases hm
     exact (aV rfl rfl rfl ⟨rfl,T⟩)
    rintro g f w28 ⟨i27,iF,yT,D6,aP2,T,hm⟩;rcases g with _|g
    ·simp only [jk] at hm; cases hm
    obtain ⟨eU,d_,hm⟩ :∃z,z=jk d1 d2 K1 g∧tJ d1 d2 z K1 i27=some r:=⟨_,rfl,hm⟩;unfold tJ at hm;refine wp_seq<|wp_seq<|au rfl<|aT D6<|aT iF<|Du rfl<|gy 4 rfl<|gZ (.slice A4 d1.env.length c4) rfl (cu (cellT T (vk 4 _ rfl)))<|yH rfl<|iq (.bool (decide (i27 < (d1.env.length:Int))))<|RQ.nil<|ah ?_;rcases aB (decide (i27 < (d1.env.length:Int))) with c29|c29
    ·replace hm:=cF c29 hm;have pc29:=of_decide_eq_false c29;refine iH c29<|wp_exit ?_;exact (bQ (bQ (iW ⟨_,rfl,⟨T,(by rw [hK1] at hm; exact hm)⟩⟩)))
    replace hm:=cT c29 hm;have pc29:=of_decide_eq_true c29;refine ig c29<|wp_skip<|ah<|wp_seq<|wp_block<|wp_seq<|cZ rfl<|aT iF<|Du rfl<|gy 4 rfl<|gZ (.slice A4 d1.env.length c4) rfl (bV (cellT T (vk 4 _ rfl)))<|aT D6 ?_;obtain ⟨x30,aKR,hm⟩:=bnd hm;obtain ⟨k31,aX1,aPN,aKR⟩:=aU aKR;obtain ⟨b37,o38,rfl,a9c⟩:=h4.addr (by omega);obtain ⟨bat,aAC,aX2⟩:=h4.el aKR;have aX3:=aAC;obtain rfl:=aAC;refine RQ.y rfl (Y.indexAddr (m:=k31) (sz:=1) rfl rfl aX1 aPN (by kernel_rfl))<|gZ (.int .i64 x30) rfl (bV (cellT T (aX2 0 _ rfl)))<|aT yT ?_;obtain ⟨s39,anA,hm⟩:=bnd hm;replace anA:=jg anA;refine uZ (.int .i64 s39) rfl rfl (by rw [BN anA.2,anA.1])<|RQ.call rfl (Vu rfl rfl rfl) (by kernel_rfl) (v:=.bool (ni x30 0 s39)) (bel (K:=fun _=>True) fun w' hb'=>(KR (mD x30 0 s39 w')))<|RQ.y rfl (Y.not (b':=(!(ni x30 0 s39))) rfl rfl)<|RQ.nil ?_;intro w40 adS;have aAD:=adS.size;have T:=Tt T adS;refine ah ?_;rcases aB (ni x30 0 s39) with MQ|MQ
    ·replace hm:=cF MQ hm;refine dX rfl (gQ rfl MQ rfl)<|wp_seq<|au rfl<|aW (.bool false)<|RQ.nil<|ah<|wp_ret ?_
     cases hm
     exact (bC (aF (aF (jG (bC (aF (aV rfl rfl rfl ⟨rfl,T⟩)))))))
    replace hm:=cT MQ hm;refine gU rfl (gQ rfl MQ rfl)<|wp_skip ?_;refine eF (ah ?_);refine au rfl<|aT D6<|RQ.y rfl (Y.dS rfl rfl (bn (m:=i27) (by omega)))<|aW (.int .i64 (i27+1))<|RQ.nil ?_;exact (ah ⟨g,_,Nat.lt_succ_self _,rfl,⟨(i27+1),iF,yT,rfl,(by omega),T,(by rw [← d_]; exact hm)⟩⟩)
   replace hm:=cT c25 hm;have pc25:=of_decide_eq_true c25;refine ig c25<|wp_seq<|au rfl<|aW (.bool false)<|RQ.nil<|ah<|wp_ret ?_
   cases hm
   exact (aF (aV rfl rfl rfl ⟨rfl,T⟩))
  replace hm:=cT EC hm;iterate 6 refine RQ.skip (oL 43 EC) ?_
  refine dN true (.bool true) (vb rfl EC)<|RQ.nil ?_;intro w44 aAE;have aI3:=aAE.size;have T:=Tt T aAE;refine ah<|dX rfl rfl<|wp_seq<|au rfl<|aW (.bool false)<|RQ.nil<|ah<|wp_ret ?_
  cases hm
  exact (aF (aV rfl rfl rfl ⟨rfl,T⟩))
noncomputable def qX:Option Bool:=
  some true
noncomputable def vw (d0:ay) (eU:Int→Option Bool) (K1:Option Bool) (i8:Int):Option Bool:=
  (bif (decide (i8 < (d0.term.kids.length:Int))) then ((fC d0.term.kids i8).bind fun x11=>(bif (x11.kind != 1) then some false else ((fC d0.term.kids i8).bind fun x23=>(bif (x23.value != i8) then some false else (eU (i8+1)))))) else (K1))
noncomputable def jJ (d0:ay) (K1:Option Bool):Nat→Int→Option Bool
  |0,_=>none
  |g+1,i8=>vw d0 (jJ d0 K1 g) K1 i8
noncomputable def D8 (d0:ay):Option Bool:=
  (bif ((d0.term.kids.length:Int) != (d0.env.length:Int)) then some false else (jJ d0 qX (d0.term.kids.length+1) 0))
set_option maxHeartbeats 2000000 in
theorem aau (d0:ay) (r:Bool) (hm:D8 d0=some r) (v0:Value) (w:World) (hv0:Pt dM w v0 d0) :
    Calls Tryz.prog 83 #[v0] w fun e w'=>e=.returned (.bool r)∧Below w.heap.size w w':=by
  obtain ⟨qg,qh,lg,rfl,qm,jR,eu⟩:=hv0;have qB:=jR;obtain ⟨A1,n1,c1,A2,n2,c2,A3,n3,c3,rfl,⟨h1,r1⟩,⟨h2,r2⟩,⟨h3,r3⟩⟩:=jR;obtain ⟨rfl,q1⟩:=bI h1 r1;obtain ⟨rfl,q2⟩:=bI h2 r2;obtain ⟨rfl,q3⟩:=bI h3 r3;have T:=Below.refl w.heap.size w;unfold D8 at hm;refine enter 49 Tryz.func83 rfl rfl rfl ?_;intro f hf;have s0:f 0=.pointer (some ⟨qg,qh,none⟩):=hf 0 _ rfl;refine wp_seq<|au rfl<|aW (.bool false)<|RQ.nil<|ah<|wp_seq<|wp_seq<|FC (by kernel_rfl) (by kernel_rfl)<|aT s0<|Du rfl<|gy 0 rfl<|gy 3 rfl<|gZ (.slice A2 d0.term.kids.length c2) rfl (bV (cellT T (eu 3 _ rfl)))<|yH rfl<|aT s0<|Du rfl<|gy 4 rfl<|gZ (.slice A3 d0.env.length c3) rfl (bV (cellT T (eu 4 _ rfl)))<|yH rfl<|iq (.bool ((d0.term.kids.length:Int) != (d0.env.length:Int)))<|RQ.nil ?_;intro w4 hb5;have aha:=hb5.size;have T:=Tt T hb5;refine ah ?_;rcases aB ((d0.term.kids.length:Int) != (d0.env.length:Int)) with c6|c6
  ·replace hm:=cF c6 hm;refine iH c6<|wp_skip<|ah<|wp_seq<|wp_seq<|au rfl<|aW (.int .i64 0)<|RQ.nil<|ah<|wp_block ?_;obtain ⟨K1,hK1,hm⟩ :∃K,K=qX∧jJ d0 K (d0.term.kids.length+1) 0=some r:=⟨_,rfl,hm⟩;refine dG (fun g f w'=>∃(i8:Int),f 0=.pointer (some ⟨qg,qh,none⟩)∧f 3=.int .i64 i8∧0≤i8∧Below w.heap.size w w'∧jJ d0 K1 g i8=some r) 0 (fun f w'=>Below w.heap.size w w'∧qX  = some r) (d0.term.kids.length+1) ⟨0,s0,rfl,(by omega),T,hm⟩ ?_ ?_
   ·rintro f w7 ⟨T,hm⟩;unfold qX at hm;refine dW (ah ?_);refine wp_seq<|au rfl<|aW (.bool true)<|RQ.nil<|ah<|wp_ret ?_
    cases hm
    exact (aV rfl rfl rfl ⟨rfl,T⟩)
   rintro g f w9 ⟨i8,dQ,jE,aAt,T,hm⟩;rcases g with _|g
   ·simp only [jJ] at hm; cases hm
   obtain ⟨eU,d_,hm⟩ :∃z,z=jJ d0 K1 g∧vw d0 z K1 i8=some r:=⟨_,rfl,hm⟩;unfold vw at hm;refine wp_seq<|wp_seq<|au rfl<|aT jE<|aT dQ<|Du rfl<|gy 0 rfl<|gy 3 rfl<|gZ (.slice A2 d0.term.kids.length c2) rfl (cu (cellT T (eu 3 _ rfl)))<|yH rfl<|iq (.bool (decide (i8 < (d0.term.kids.length:Int))))<|RQ.nil<|ah ?_;rcases aB (decide (i8 < (d0.term.kids.length:Int))) with c10|c10
   ·replace hm:=cF c10 hm;have aAz:=of_decide_eq_false c10;refine iH c10<|wp_exit ?_;exact (bQ (bQ (iW ⟨_,rfl,⟨T,(by rw [hK1] at hm; exact hm)⟩⟩)))
   replace hm:=cT c10 hm;have aAz:=of_decide_eq_true c10;refine ig c10<|wp_skip<|ah<|wp_seq<|wp_block<|wp_seq<|au rfl<|aT dQ<|Du rfl<|gy 0 rfl<|gy 3 rfl<|gZ (.slice A2 d0.term.kids.length c2) rfl (cu (cellT T (eu 3 _ rfl)))<|aT jE ?_;obtain ⟨x11,as2,hm⟩:=bnd hm;obtain ⟨k12,aKP,aKQ,as2⟩:=aU as2;obtain ⟨b18,o19,rfl,aI2⟩:=h2.addr (by omega);obtain ⟨aX0,ahb,hc17⟩:=h2.el as2;have aAA:=ahb;obtain ⟨A20,n20,c20,A21,n21,c21,rfl,⟨h20,r20⟩,⟨h21,r21⟩⟩:=(bG ahb);obtain ⟨rfl,q20⟩:=bI h20 r20;obtain ⟨rfl,q21⟩:=bI h21 r21;refine RQ.y rfl (Y.indexAddr (m:=k12) (sz:=4) rfl rfl aKP aKQ (by kernel_rfl))<|gy 0 rfl<|gZ (.int .i64 x11.kind) rfl (cu (cellT T (hc17 0 _ rfl)))<|iq (.bool (x11.kind != 1))<|dF (.bool (x11.kind != 1)) ?_;rcases aB (x11.kind != 1) with EC|EC
   ·replace hm:=cF EC hm;refine RQ.y (bT 36 EC) (Y.move (v:=.pointer (some ⟨qg,qh,none⟩)) dQ)<|RQ.y (bT 36 EC) (Y.nilCheck rfl)<|RQ.y (bT 36 EC) (Y.fieldAddr (off:=0) rfl (by kernel_rfl))<|RQ.y (bT 36 EC) (Y.fieldAddr (off:=3) rfl (by kernel_rfl))<|RQ.y (bT 36 EC) (Y.load (v:=.slice (some ⟨b18,o19,none⟩) d0.term.kids.length c2) rfl (by kernel_rfl) (cu (cellT T (eu 3 _ rfl))))<|RQ.y (bT 36 EC) (Y.move (v:=.int .i64 i8) jE) ?_;obtain ⟨x23,aKS,hm⟩:=bnd hm;obtain ⟨k24,aX4,aX5,aKS⟩:=aU aKS;obtain ⟨bau,aAF,hc29⟩:=h2.el aKS;have aX6:=aAF;obtain ⟨A30,n30,PU,A31,n31,c31,rfl,⟨h30,r30⟩,⟨h31,r31⟩⟩:=(bG aAF);obtain ⟨rfl,q30⟩:=bI h30 r30;obtain ⟨rfl,q31⟩:=bI h31 r31;refine RQ.y (bT 36 EC) (Y.indexAddr (m:=k24) (sz:=4) rfl rfl aX4 aX5 (by kernel_rfl))<|RQ.y (bT 36 EC) (Y.fieldAddr (off:=1) rfl (by kernel_rfl))<|RQ.y (bT 36 EC) (Y.load (v:=.int .i64 x23.value) rfl (by kernel_rfl) (cu (cellT T (hc29 1 _ rfl))))<|RQ.y (bT 36 EC) (Y.move (v:=.int .i64 i8) jE)<|RQ.y (bT 36 EC) (Y.dS (v:=.bool (x23.value != i8)) rfl rfl rfl)<|dN false (.bool (x23.value != i8)) (vb rfl EC)<|RQ.nil<|ah ?_;rcases aB (x23.value != i8) with c32|c32
    ·replace hm:=cF c32 hm;refine iH c32<|wp_skip ?_;refine eF (ah ?_);refine au rfl<|aT jE<|RQ.y rfl (Y.dS rfl rfl (bn (m:=i8) (by omega)))<|aW (.int .i64 (i8+1))<|RQ.nil ?_;exact (ah ⟨g,_,Nat.lt_succ_self _,rfl,⟨(i8+1),dQ,rfl,(by omega),T,(by rw [← d_]; exact hm)⟩⟩)
    replace hm:=cT c32 hm;refine ig c32<|wp_seq<|au rfl<|aW (.bool false)<|RQ.nil<|ah<|wp_ret ?_
    cases hm
    exact (bC (aF (aF (jG (bC (aF (aV rfl rfl rfl ⟨rfl,T⟩)))))))
   replace hm:=cT EC hm;iterate 11 refine RQ.skip (oL 36 EC) ?_
   refine dN true (.bool true) (vb rfl EC)<|RQ.nil<|ah<|dX rfl rfl<|wp_seq<|au rfl<|aW (.bool false)<|RQ.nil<|ah<|wp_ret ?_
   cases hm
   exact (bC (aF (aF (jG (bC (aF (aV rfl rfl rfl ⟨rfl,T⟩)))))))
  replace hm:=cT c6 hm;refine ig c6<|wp_seq<|au rfl<|aW (.bool false)<|RQ.nil<|ah<|wp_ret ?_
  cases hm
  exact (aF (aV rfl rfl rfl ⟨rfl,T⟩))
noncomputable def zi (d0:ay):Option Bool:=
  (bif (d0.term.kind==4) then some true else (bif (d0.term.kind==2) then some true else (bif (d0.term.kind==8) then ((D8 d0).bind fun y7=>some y7) else some false)))
set_option maxHeartbeats 2000000 in
theorem Zf (d0:ay) (r:Bool) (hm:zi d0=some r) (v0:Value) (w:World) (hv0:Pt dM w v0 d0) :
    Calls Tryz.prog 48 #[v0] w fun e w'=>e=.returned (.bool r)∧Below w.heap.size w w':=by
  obtain ⟨qg,qh,lg,rfl,qm,jR,eu⟩:=hv0;have qB:=jR;obtain ⟨A1,n1,c1,A2,n2,c2,A3,n3,c3,rfl,⟨h1,r1⟩,⟨h2,r2⟩,⟨h3,r3⟩⟩:=jR;obtain ⟨rfl,q1⟩:=bI h1 r1;obtain ⟨rfl,q2⟩:=bI h2 r2;obtain ⟨rfl,q3⟩:=bI h3 r3;have T:=Below.refl w.heap.size w;unfold zi at hm;refine enter 15 Tryz.func48 rfl rfl rfl ?_;intro f hf;have s0:f 0=.pointer (some ⟨qg,qh,none⟩):=hf 0 _ rfl;refine wp_seq<|au rfl<|aW (.bool false)<|RQ.nil<|ah<|wp_seq<|wp_seq<|au rfl<|aT s0<|Du rfl<|gy 0 rfl<|gy 0 rfl<|gZ (.int .i64 d0.term.kind) rfl (cu (cellT T (eu 0 _ rfl)))<|RQ.nil<|ah<|wp_block<|wp_seq<|wp_seq<|au rfl<|iq (.bool (d0.term.kind==4))<|aW (.bool (d0.term.kind==4))<|RQ.nil<|ah ?_;rcases aB (d0.term.kind==4) with c4|c4
  ·replace hm:=cF c4 hm;refine iH c4<|au rfl<|iq (.bool (d0.term.kind==2))<|aW (.bool (d0.term.kind==2))<|RQ.nil<|ah ?_;rcases aB (d0.term.kind==2) with c5|c5
   ·replace hm:=cF c5 hm;refine iH c5<|wp_seq<|au rfl<|iq (.bool (d0.term.kind==8))<|aW (.bool (d0.term.kind==8))<|RQ.nil<|ah ?_;rcases aB (d0.term.kind==8) with c6|c6
    ·replace hm:=cF c6 hm;refine iH c6<|wp_skip ?_;refine eF (ah ?_);refine wp_seq<|au rfl<|aW (.bool false)<|RQ.nil<|ah<|wp_ret ?_
     cases hm
     exact (aV rfl rfl rfl ⟨rfl,T⟩)
    replace hm:=cT c6 hm;refine ig c6<|wp_seq<|cZ rfl<|aT s0 ?_;obtain ⟨y7,e8,hm⟩:=bnd hm;refine RQ.call rfl (qZ rfl) (by kernel_rfl) (v:=.bool y7) (bel (K:=fun _=>True) fun w' hb'=>(aau d0 _ e8 _ w' (l9 qA qm qB eu (Tt T hb'))))<|aW (.bool y7)<|RQ.nil ?_;intro w9 Au;have T:=Tt T Au;refine ah<|wp_ret ?_
    cases hm
    exact (bC (aF (aV rfl rfl rfl ⟨rfl,T⟩)))
   replace hm:=cT c5 hm;refine ig c5<|wp_seq<|au rfl<|aW (.bool true)<|RQ.nil<|ah<|wp_ret ?_
   cases hm
   exact (bC (aF (aV rfl rfl rfl ⟨rfl,T⟩)))
  replace hm:=cT c4 hm;refine ig c4<|wp_skip<|ah<|ig c4<|wp_seq<|au rfl<|aW (.bool true)<|RQ.nil<|ah<|wp_ret ?_
  cases hm
  exact (bC (aF (aV rfl rfl rfl ⟨rfl,T⟩)))
noncomputable def uF:Option Bool:=
  some true
noncomputable def zk (d0:dY) (d1:List Int) (eU:Int→Option Bool) (K1:Option Bool) (i3:Int):Option Bool:=
  (bif (decide (i3 < (d1.length:Int))) then ((fC d1 i3).bind fun x6=>((ck ((d0.defs.length:Int) - 1)).bind fun s15=>(bif (ni x6 0 s15) then (eU (i3+1)) else some false))) else (K1))
noncomputable def lV (d0:dY) (d1:List Int) (K1:Option Bool):Nat→Int→Option Bool
  |0,_=>none
  |g+1,i3=>zk d0 d1 (lV d0 d1 K1 g) K1 i3
noncomputable def Aw (d0:dY) (d1:List Int):Option Bool:=
  (lV d0 d1 uF (d1.length+1) 0)
set_option maxHeartbeats 2000000 in
theorem SH (d0:dY) (d1:List Int) (r:Bool) (hm:Aw d0 d1=some r) (v0:Value) (v1:Value) (w:World) (hv0:Pt iI w v0 d0) (hv1:Sl nR 1 w v1 d1) :
    Calls Tryz.prog 82 #[v0,v1] w fun e w'=>e=.returned (.bool r)∧Below w.heap.size w w':=by
  obtain ⟨qg,qh,lg,rfl,qm,jR,eu⟩:=hv0;have qB:=jR;obtain ⟨A1,n1,c1,rfl,⟨h1,r1⟩⟩:=jR;obtain ⟨rfl,q1⟩:=bI h1 r1;obtain ⟨Aa1,na1,ca1,rfl,ha1,ra1⟩:=hv1;obtain ⟨rfl,qa1⟩:=bI ha1 ra1;have T:=Below.refl w.heap.size w;unfold Aw at hm;refine enter 24 Tryz.func82 rfl rfl rfl ?_;intro f hf;have s0:f 0=.pointer (some ⟨qg,qh,none⟩):=hf 0 _ rfl;have s1:f 1=.slice Aa1 d1.length ca1:=hf 1 _ rfl;refine wp_seq<|au rfl<|aW (.bool false)<|RQ.nil<|ah<|wp_seq<|wp_seq<|au rfl<|aW (.int .i64 0)<|RQ.nil<|ah<|wp_block ?_;obtain ⟨K1,hK1,hm⟩ :∃K,K=uF∧lV d0 d1 K (d1.length+1) 0=some r:=⟨_,rfl,hm⟩;refine dG (fun g f w'=>∃(i3:Int),f 0=.pointer (some ⟨qg,qh,none⟩)∧f 1=.slice Aa1 d1.length ca1∧f 5=.int .i64 i3∧0≤i3∧Below w.heap.size w w'∧lV d0 d1 K1 g i3=some r) 0 (fun f w'=>Below w.heap.size w w'∧uF  = some r) (d1.length+1) ⟨0,s0,s1,rfl,(by omega),T,hm⟩ ?_ ?_
  ·rintro f w2 ⟨T,hm⟩;unfold uF at hm;refine dW (ah ?_);refine wp_seq<|au rfl<|aW (.bool true)<|RQ.nil<|ah<|wp_ret ?_
   cases hm
   exact (aV rfl rfl rfl ⟨rfl,T⟩)
  rintro g f w4 ⟨i3,dQ,iF,jD,P6,T,hm⟩;rcases g with _|g
  ·simp only [lV] at hm; cases hm
  obtain ⟨eU,d_,hm⟩ :∃z,z=lV d0 d1 K1 g∧zk d0 d1 z K1 i3=some r:=⟨_,rfl,hm⟩;unfold zk at hm;refine wp_seq<|wp_seq<|au rfl<|aT jD<|aT iF<|yH rfl<|iq (.bool (decide (i3 < (d1.length:Int))))<|RQ.nil<|ah ?_;rcases aB (decide (i3 < (d1.length:Int))) with c5|c5
  ·replace hm:=cF c5 hm;have pc5:=of_decide_eq_false c5;refine iH c5<|wp_exit ?_;exact (bQ (bQ (iW ⟨_,rfl,⟨T,(by rw [hK1] at hm; exact hm)⟩⟩)))
  replace hm:=cT c5 hm;have pc5:=of_decide_eq_true c5;refine ig c5<|wp_skip<|ah<|wp_seq<|wp_block<|wp_seq<|FC (by kernel_rfl) (by kernel_rfl)<|aT iF<|aT jD ?_;obtain ⟨x6,hx9,hm⟩:=bnd hm;obtain ⟨k7,hk10,adO,hx9⟩:=aU hx9;obtain ⟨b13,o14,rfl,aml⟩:=ha1.addr (by omega);obtain ⟨cs8,Gv,hc12⟩:=ha1.el hx9;have amm:=Gv;obtain rfl:=Gv;refine RQ.y rfl (Y.indexAddr (m:=k7) (sz:=1) rfl rfl hk10 adO (by kernel_rfl))<|gZ (.int .i64 x6) rfl (bV (cellT T (hc12 0 _ rfl)))<|aT dQ<|Du rfl<|gy 0 rfl<|gZ (.slice A1 d0.defs.length c1) rfl (bV (cellT T (eu 0 _ rfl)))<|yH rfl ?_;obtain ⟨s15,aGt,hm⟩:=bnd hm;replace aGt:=jg aGt;refine uZ (.int .i64 s15) rfl rfl (by rw [BN aGt.2,aGt.1])<|RQ.call rfl (Vu rfl rfl rfl) (by kernel_rfl) (v:=.bool (ni x6 0 s15)) (bel (K:=fun _=>True) fun w' hb'=>(KR (mD x6 0 s15 w')))<|RQ.y rfl (Y.not (b':=(!(ni x6 0 s15))) rfl rfl)<|RQ.nil ?_;intro w16 Dq;have av5:=Dq.size;have T:=Tt T Dq;refine ah ?_;rcases aB (ni x6 0 s15) with c18|c18
  ·replace hm:=cF c18 hm;refine dX rfl (gQ rfl c18 rfl)<|wp_seq<|au rfl<|aW (.bool false)<|RQ.nil<|ah<|wp_ret ?_
   cases hm
   exact (bC (aF (aF (jG (bC (aF (aV rfl rfl rfl ⟨rfl,T⟩)))))))
  replace hm:=cT c18 hm;refine gU rfl (gQ rfl c18 rfl)<|wp_skip ?_;refine eF (ah ?_);refine au rfl<|aT jD<|RQ.y rfl (Y.dS rfl rfl (bn (m:=i3) (by omega)))<|aW (.int .i64 (i3+1))<|RQ.nil ?_;exact (ah ⟨g,_,Nat.lt_succ_self _,rfl,⟨(i3+1),dQ,iF,rfl,(by omega),T,(by rw [← d_]; exact hm)⟩⟩)
noncomputable def vC (d0:ay):Option Bool:=
  (bif (d0.term.kind==0) then (bif (d0.term.value==0) then (bif ((d0.term.data.length:Int)==0) then (bif ((d0.term.kids.length:Int)==0) then some ((d0.env.length:Int)==0) else some false) else some false) else some false) else some false)
set_option maxHeartbeats 2000000 in
theorem V_ (d0:ay) (r:Bool) (hm:vC d0=some r) (v0:Value) (w:World) (hv0:Pt dM w v0 d0) :
    Calls Tryz.prog 81 #[v0] w fun e w'=>e=.returned (.bool r)∧Below w.heap.size w w':=by
  obtain ⟨qg,qh,lg,rfl,qm,jR,eu⟩:=hv0;have qB:=jR;obtain ⟨A1,n1,c1,A2,n2,c2,A3,n3,c3,rfl,⟨h1,r1⟩,⟨h2,r2⟩,⟨h3,r3⟩⟩:=jR;obtain ⟨rfl,q1⟩:=bI h1 r1;obtain ⟨rfl,q2⟩:=bI h2 r2;obtain ⟨rfl,q3⟩:=bI h3 r3;have T:=Below.refl w.heap.size w;unfold vC at hm;refine enter 43 Tryz.func81 rfl rfl rfl ?_;intro f hf;have s0:f 0=.pointer (some ⟨qg,qh,none⟩):=hf 0 _ rfl;refine wp_seq<|au rfl<|aW (.bool false)<|RQ.nil<|ah<|wp_seq<|au rfl<|aT s0<|Du rfl<|gy 0 rfl<|gy 0 rfl<|gZ (.int .i64 d0.term.kind) rfl (cu (cellT T (eu 0 _ rfl)))<|iq (.bool (d0.term.kind==0))<|dF (.bool (d0.term.kind==0)) ?_;rcases aB (d0.term.kind==0) with c4|c4
  ·replace hm:=cF c4 hm;iterate 6 refine RQ.skip (oL 9 c4) ?_
   refine dN false (.bool false) (vb rfl c4)<|dF (.bool false) ?_;iterate 7 refine RQ.skip (zZ 17) ?_
   refine dN false (.bool false) rfl<|dF (.bool false) ?_;iterate 7 refine RQ.skip (zZ 26) ?_
   refine dN false (.bool false) rfl<|dF (.bool false) ?_;iterate 6 refine RQ.skip (zZ 35) ?_
   refine dN false (.bool false) rfl<|aW (.bool false)<|RQ.nil<|ah<|wp_ret ?_
   cases hm
   exact (aV rfl rfl rfl ⟨rfl,T⟩)
  replace hm:=cT c4 hm;refine RQ.y (bT 9 c4) (Y.move (v:=.pointer (some ⟨qg,qh,none⟩)) s0)<|RQ.y (bT 9 c4) (Y.nilCheck rfl)<|RQ.y (bT 9 c4) (Y.fieldAddr (off:=0) rfl (by kernel_rfl))<|RQ.y (bT 9 c4) (Y.fieldAddr (off:=1) rfl (by kernel_rfl))<|RQ.y (bT 9 c4) (Y.load (v:=.int .i64 d0.term.value) rfl (by kernel_rfl) (cu (cellT T (eu 1 _ rfl))))<|RQ.y (bT 9 c4) (Y.dS (v:=.bool (d0.term.value==0)) rfl rfl rfl)<|dN true (.bool (d0.term.value==0)) (vb rfl c4)<|dF (.bool (d0.term.value==0)) ?_;rcases aB (d0.term.value==0) with c5|c5
  ·replace hm:=cF c5 hm;iterate 7 refine RQ.skip (oL 17 c5) ?_
   refine dN false (.bool false) (vb rfl c5)<|dF (.bool false) ?_;iterate 7 refine RQ.skip (zZ 26) ?_
   refine dN false (.bool false) rfl<|dF (.bool false) ?_;iterate 6 refine RQ.skip (zZ 35) ?_
   refine dN false (.bool false) rfl<|aW (.bool false)<|RQ.nil<|ah<|wp_ret ?_
   cases hm
   exact (aV rfl rfl rfl ⟨rfl,T⟩)
  replace hm:=cT c5 hm;refine RQ.y (bT 17 c5) (Y.move (v:=.pointer (some ⟨qg,qh,none⟩)) s0)<|RQ.y (bT 17 c5) (Y.nilCheck rfl)<|RQ.y (bT 17 c5) (Y.fieldAddr (off:=0) rfl (by kernel_rfl))<|RQ.y (bT 17 c5) (Y.fieldAddr (off:=2) rfl (by kernel_rfl))<|RQ.y (bT 17 c5) (Y.load (v:=.slice A1 d0.term.data.length c1) rfl (by kernel_rfl) (cu (cellT T (eu 2 _ rfl))))<|RQ.y (bT 17 c5) (Y.len (by kernel_rfl) rfl)<|RQ.y (bT 17 c5) (Y.dS (v:=.bool ((d0.term.data.length:Int)==0)) rfl rfl rfl)<|dN true (.bool ((d0.term.data.length:Int)==0)) (vb rfl c5)<|dF (.bool ((d0.term.data.length:Int)==0)) ?_;rcases aB ((d0.term.data.length:Int)==0) with c6|c6
  ·replace hm:=cF c6 hm;iterate 7 refine RQ.skip (oL 26 c6) ?_
   refine dN false (.bool false) (vb rfl c6)<|dF (.bool false) ?_;iterate 6 refine RQ.skip (zZ 35) ?_
   refine dN false (.bool false) rfl<|aW (.bool false)<|RQ.nil<|ah<|wp_ret ?_
   cases hm
   exact (aV rfl rfl rfl ⟨rfl,T⟩)
  replace hm:=cT c6 hm;refine RQ.y (bT 26 c6) (Y.move (v:=.pointer (some ⟨qg,qh,none⟩)) s0)<|RQ.y (bT 26 c6) (Y.nilCheck rfl)<|RQ.y (bT 26 c6) (Y.fieldAddr (off:=0) rfl (by kernel_rfl))<|RQ.y (bT 26 c6) (Y.fieldAddr (off:=3) rfl (by kernel_rfl))<|RQ.y (bT 26 c6) (Y.load (v:=.slice A2 d0.term.kids.length c2) rfl (by kernel_rfl) (cu (cellT T (eu 3 _ rfl))))<|RQ.y (bT 26 c6) (Y.len (by kernel_rfl) rfl)<|RQ.y (bT 26 c6) (Y.dS (v:=.bool ((d0.term.kids.length:Int)==0)) rfl rfl rfl)<|dN true (.bool ((d0.term.kids.length:Int)==0)) (vb rfl c6)<|dF (.bool ((d0.term.kids.length:Int)==0)) ?_;rcases aB ((d0.term.kids.length:Int)==0) with c7|c7
  ·replace hm:=cF c7 hm;iterate 6 refine RQ.skip (oL 35 c7) ?_
   refine dN false (.bool false) (vb rfl c7)<|aW (.bool false)<|RQ.nil<|ah<|wp_ret ?_
   cases hm
   exact (aV rfl rfl rfl ⟨rfl,T⟩)
  replace hm:=cT c7 hm;refine RQ.y (bT 35 c7) (Y.move (v:=.pointer (some ⟨qg,qh,none⟩)) s0)<|RQ.y (bT 35 c7) (Y.nilCheck rfl)<|RQ.y (bT 35 c7) (Y.fieldAddr (off:=4) rfl (by kernel_rfl))<|RQ.y (bT 35 c7) (Y.load (v:=.slice A3 d0.env.length c3) rfl (by kernel_rfl) (cu (cellT T (eu 4 _ rfl))))<|RQ.y (bT 35 c7) (Y.len (by kernel_rfl) rfl)<|RQ.y (bT 35 c7) (Y.dS (v:=.bool ((d0.env.length:Int)==0)) rfl rfl rfl)<|dN true (.bool ((d0.env.length:Int)==0)) (vb rfl c7)<|aW (.bool ((d0.env.length:Int)==0))<|RQ.nil<|ah<|wp_ret ?_
  cases hm
  exact (aV rfl rfl rfl ⟨rfl,T⟩)
noncomputable def BQ (d0:dY) (d1:aO) (d2:Int):Option Bool:=
  (bif (d1.kind==3) then (bif (ni d1.value 1 6) then (bif ((d1.data.length:Int)==0) then ((qF d0 d1.closure d2).bind fun y72=>some y72) else some false) else some false) else ((vC d1.closure).bind fun y7=>(bif y7 then (bif (d1.kind==1) then ((ck (d2 - 1)).bind fun s60=>(bif (ni d1.value 0 s60) then some ((d1.data.length:Int)==0) else some false)) else (bif (d1.kind==2) then ((ck (d2 - 1)).bind fun s54=>(bif (ni d1.value 0 s54) then some ((d1.data.length:Int)==0) else some false)) else (bif (d1.kind==4) then (bif (ni d1.value 1 6) then (bif ((d1.data.length:Int)==1) then ((fC d1.data 0).bind fun x43=>some (ni x43 (-2147483648) 2147483647)) else some false) else some false) else (bif (d1.kind==5) then (bif (d1.value==0) then (bif (ni (d1.data.length:Int) 1 4) then ((Aw d0 d1.data).bind fun Uj=>some Uj) else some false) else some false) else (bif (d1.kind==6) then (bif (d1.value==0) then (bif ((d1.data.length:Int)==2) then ((Aw d0 d1.data).bind fun y23=>some y23) else some false) else some false) else some false))))) else some false)))
set_option maxHeartbeats 2000000 in
theorem abk (d0:dY) (d1:aO) (d2:Int) (r:Bool) (hm:BQ d0 d1 d2=some r) (v0:Value) (v1:Value) (w:World) (hv0:Pt iI w v0 d0) (hv1:Pt nS w v1 d1) :
    Calls Tryz.prog 47 #[v0,v1,.int .i64 d2] w fun e w'=>e=.returned (.bool r)∧Below w.heap.size w w':=by
  obtain ⟨qg,qh,lg,rfl,qm,jR,eu⟩:=hv0;have qB:=jR;obtain ⟨A1,n1,c1,rfl,⟨h1,r1⟩⟩:=jR;obtain ⟨rfl,q1⟩:=bI h1 r1;obtain ⟨P_,TU,SG,rfl,V9,KW,vk⟩:=hv1;have ahc:=KW;obtain ⟨A2,n2,c2,A3,n3,c3,A4,n4,c4,A5,n5,c5,rfl,⟨h2,r2⟩,⟨h3,r3⟩,⟨h4,r4⟩,⟨h5,r5⟩⟩:=KW;obtain ⟨rfl,q2⟩:=bI h2 r2;obtain ⟨rfl,q3⟩:=bI h3 r3;obtain ⟨rfl,q4⟩:=bI h4 r4;obtain ⟨rfl,q5⟩:=bI h5 r5;have T:=Below.refl w.heap.size w;unfold BQ at hm;refine enter 130 Tryz.func47 rfl rfl rfl ?_;intro f hf;have s0:f 0=.pointer (some ⟨qg,qh,none⟩):=hf 0 _ rfl;have s1:f 1=.pointer (some ⟨P_,TU,none⟩):=hf 1 _ rfl;have s2:f 2=.int .i64 d2:=hf 2 _ rfl;refine wp_seq<|au rfl<|aW (.bool false)<|RQ.nil<|ah<|wp_seq<|wp_seq<|au rfl<|aT s1<|Du rfl<|gy 0 rfl<|gZ (.int .i64 d1.kind) rfl (cu (cellT T (vk 0 _ rfl)))<|iq (.bool (d1.kind==3))<|RQ.nil<|ah ?_;rcases aB (d1.kind==3) with c6|c6
  ·replace hm:=cF c6 hm;refine iH c6<|wp_skip<|ah<|wp_seq<|wp_seq<|cZ rfl<|aT s1<|Du rfl<|gy 3 rfl ?_;obtain ⟨y7,e8,hm⟩:=bnd hm;refine RQ.call rfl (qZ rfl) (by kernel_rfl) (v:=.bool y7) (bel (K:=fun _=>True) fun w' hb'=>(V_ d1.closure _ e8 _ w' (NG (R:=dM) qA V9 (pre:=[.int .i64 d1.kind,.int .i64 d1.value,.slice A2 d1.data.length c2]) (cs:=[.int .i64 d1.closure.term.kind,.int .i64 d1.closure.term.value,.slice A3 d1.closure.term.data.length c3,.slice A4 d1.closure.term.kids.length c4,.slice A5 d1.closure.env.length c5]) (post:=[]) ⟨_,_,_,_,_,_,_,_,_,rfl,⟨h3,r3⟩,⟨h4,r4⟩,⟨h5,r5⟩⟩ vk (Tt T hb'))))<|RQ.y rfl (Y.not (b':=(!y7)) rfl rfl)<|RQ.nil ?_;intro w9 Au;have axA:=Au.size;have T:=Tt T Au;refine ah ?_;rcases aB y7 with c11|c11
   ·replace hm:=cF c11 hm;refine dX rfl (gQ rfl c11 rfl)<|wp_seq<|au rfl<|aW (.bool false)<|RQ.nil<|ah<|wp_ret ?_
    cases hm
    exact (aF (aV rfl rfl rfl ⟨rfl,T⟩))
   replace hm:=cT c11 hm;refine gU rfl (gQ rfl c11 rfl)<|wp_skip<|ah<|wp_seq<|wp_seq<|au rfl<|aT s1<|Du rfl<|gy 0 rfl<|gZ (.int .i64 d1.kind) rfl (cu (cellT T (vk 0 _ rfl)))<|RQ.nil<|ah<|wp_block<|wp_seq<|wp_seq<|au rfl<|iq (.bool (d1.kind==1))<|aW (.bool (d1.kind==1))<|RQ.nil<|ah ?_;rcases aB (d1.kind==1) with c12|c12
   ·replace hm:=cF c12 hm;refine iH c12<|au rfl<|iq (.bool (d1.kind==2))<|aW (.bool (d1.kind==2))<|RQ.nil<|ah ?_;rcases aB (d1.kind==2) with c13|c13
    ·replace hm:=cF c13 hm;refine iH c13<|wp_seq<|au rfl<|iq (.bool (d1.kind==4))<|aW (.bool (d1.kind==4))<|RQ.nil<|ah ?_;rcases aB (d1.kind==4) with c14|c14
     ·replace hm:=cF c14 hm;refine iH c14<|wp_seq<|au rfl<|iq (.bool (d1.kind==5))<|aW (.bool (d1.kind==5))<|RQ.nil<|ah ?_;rcases aB (d1.kind==5) with c15|c15
      ·replace hm:=cF c15 hm;refine iH c15<|wp_seq<|au rfl<|iq (.bool (d1.kind==6))<|aW (.bool (d1.kind==6))<|RQ.nil<|ah ?_;rcases aB (d1.kind==6) with c16|c16
       ·replace hm:=cF c16 hm;refine iH c16<|wp_skip ?_;refine eF (ah ?_);refine wp_seq<|au rfl<|aW (.bool false)<|RQ.nil<|ah<|wp_ret ?_
        cases hm
        exact (aV rfl rfl rfl ⟨rfl,T⟩)
       replace hm:=cT c16 hm;refine ig c16<|wp_seq<|cZ rfl<|aT s1<|Du rfl<|gy 1 rfl<|gZ (.int .i64 d1.value) rfl (bV (cellT T (vk 1 _ rfl)))<|iq (.bool (d1.value==0))<|dF (.bool (d1.value==0)) ?_;rcases aB (d1.value==0) with c17|c17
       ·replace hm:=cF c17 hm;iterate 6 refine RQ.skip (oL 114 c17) ?_
        refine dN false (.bool false) (vb rfl c17)<|dF (.bool false) ?_;iterate 6 refine RQ.skip (zZ 122) ?_
        refine dN false (.bool false) rfl<|aW (.bool false)<|RQ.nil ?_;intro w18 EP;have ahd:=EP.size;have T:=Tt T EP;refine ah<|wp_ret ?_
        cases hm
        exact (bC (aF (aV rfl rfl rfl ⟨rfl,T⟩)))
       replace hm:=cT c17 hm;refine RQ.y (bT 114 c17) (Y.move (v:=.pointer (some ⟨P_,TU,none⟩)) s1)<|RQ.y (bT 114 c17) (Y.nilCheck rfl)<|RQ.y (bT 114 c17) (Y.fieldAddr (off:=2) rfl (by kernel_rfl))<|RQ.y (bT 114 c17) (Y.load (v:=.slice A2 d1.data.length c2) rfl (by kernel_rfl) (bV (cellT T (vk 2 _ rfl))))<|RQ.y (bT 114 c17) (Y.len (by kernel_rfl) rfl)<|RQ.y (bT 114 c17) (Y.dS (v:=.bool ((d1.data.length:Int)==2)) rfl rfl rfl)<|dN true (.bool ((d1.data.length:Int)==2)) (vb rfl c17)<|dF (.bool ((d1.data.length:Int)==2)) ?_;rcases aB ((d1.data.length:Int)==2) with c20|c20
       ·replace hm:=cF c20 hm;iterate 6 refine RQ.skip (oL 122 c20) ?_
        refine dN false (.bool false) (vb rfl c20)<|aW (.bool false)<|RQ.nil ?_;intro w21 SI;have awk:=SI.size;have T:=Tt T SI;refine ah<|wp_ret ?_
        cases hm
        exact (bC (aF (aV rfl rfl rfl ⟨rfl,T⟩)))
       replace hm:=cT c20 hm;refine RQ.y (bT 122 c20) (Y.move (v:=.pointer (some ⟨qg,qh,none⟩)) s0)<|RQ.y (bT 122 c20) (Y.move (v:=.pointer (some ⟨P_,TU,none⟩)) s1)<|RQ.y (bT 122 c20) (Y.nilCheck rfl)<|RQ.y (bT 122 c20) (Y.fieldAddr (off:=2) rfl (by kernel_rfl))<|RQ.y (bT 122 c20) (Y.load (v:=.slice A2 d1.data.length c2) rfl (by kernel_rfl) (bV (cellT T (vk 2 _ rfl)))) ?_;obtain ⟨y23,e24,hm⟩:=bnd hm;refine RQ.call (bT 122 c20) (qV rfl rfl) (by kernel_rfl) (v:=.bool y23) (bel (K:=fun _=>True) fun w' hb'=>(SH d0 d1.data _ e24 _ _ w' (l9 jP qm qB eu (Tt T hb')) (eY aG h2 r2 (Tt T hb'))))<|dN true (.bool y23) (vb rfl c20)<|aW (.bool y23)<|RQ.nil ?_;intro w25 abl;have aI4:=abl.size;have T:=Tt T abl;refine ah<|wp_ret ?_
       cases hm
       exact (bC (aF (aV rfl rfl rfl ⟨rfl,T⟩)))
      replace hm:=cT c15 hm;refine ig c15<|wp_seq<|cZ rfl<|aT s1<|Du rfl<|gy 1 rfl<|gZ (.int .i64 d1.value) rfl (bV (cellT T (vk 1 _ rfl)))<|iq (.bool (d1.value==0))<|dF (.bool (d1.value==0)) ?_;rcases aB (d1.value==0) with Vx|Vx
      ·replace hm:=cF Vx hm;iterate 6 refine RQ.skip (oL 91 Vx) ?_
       refine dN false (.bool false) (vb rfl Vx)<|dF (.bool false) ?_;iterate 6 refine RQ.skip (zZ 99) ?_
       refine dN false (.bool false) rfl<|aW (.bool false)<|RQ.nil ?_;intro w28 aj3;have aP3:=aj3.size;have T:=Tt T aj3;refine ah<|wp_ret ?_
       cases hm
       exact (bC (aF (aV rfl rfl rfl ⟨rfl,T⟩)))
      replace hm:=cT Vx hm;refine RQ.y (bT 91 Vx) (Y.move (v:=.pointer (some ⟨P_,TU,none⟩)) s1)<|RQ.y (bT 91 Vx) (Y.nilCheck rfl)<|RQ.y (bT 91 Vx) (Y.fieldAddr (off:=2) rfl (by kernel_rfl))<|RQ.y (bT 91 Vx) (Y.load (v:=.slice A2 d1.data.length c2) rfl (by kernel_rfl) (bV (cellT T (vk 2 _ rfl))))<|RQ.y (bT 91 Vx) (Y.len (by kernel_rfl) rfl)<|RQ.call (bT 91 Vx) (Vu rfl rfl rfl) (by kernel_rfl) (v:=.bool (ni (d1.data.length:Int) 1 4)) (bel (K:=fun _=>True) fun w' hb'=>(KR (mD (d1.data.length:Int) 1 4 w')))<|dN true (.bool (ni (d1.data.length:Int) 1 4)) (vb rfl Vx)<|dF (.bool (ni (d1.data.length:Int) 1 4)) ?_;rcases aB (ni (d1.data.length:Int) 1 4) with PU|PU
      ·replace hm:=cF PU hm;iterate 6 refine RQ.skip (oL 99 PU) ?_
       refine dN false (.bool false) (vb rfl PU)<|aW (.bool false)<|RQ.nil ?_;intro w31 Wh;have apV:=Wh.size;have T:=Tt T Wh;refine ah<|wp_ret ?_
       cases hm
       exact (bC (aF (aV rfl rfl rfl ⟨rfl,T⟩)))
      replace hm:=cT PU hm;refine RQ.y (bT 99 PU) (Y.move (v:=.pointer (some ⟨qg,qh,none⟩)) s0)<|RQ.y (bT 99 PU) (Y.move (v:=.pointer (some ⟨P_,TU,none⟩)) s1)<|RQ.y (bT 99 PU) (Y.nilCheck rfl)<|RQ.y (bT 99 PU) (Y.fieldAddr (off:=2) rfl (by kernel_rfl))<|RQ.y (bT 99 PU) (Y.load (v:=.slice A2 d1.data.length c2) rfl (by kernel_rfl) (bV (cellT T (vk 2 _ rfl)))) ?_;obtain ⟨Uj,e34,hm⟩:=bnd hm;refine RQ.call (bT 99 PU) (qV rfl rfl) (by kernel_rfl) (v:=.bool Uj) (bel (K:=fun _=>True) fun w' hb'=>(SH d0 d1.data _ e34 _ _ w' (l9 jP qm qB eu (Tt T hb')) (eY aG h2 r2 (Tt T hb'))))<|dN true (.bool Uj) (vb rfl PU)<|aW (.bool Uj)<|RQ.nil ?_;intro w35 Jl;have ap2:=Jl.size;have T:=Tt T Jl;refine ah<|wp_ret ?_
      cases hm
      exact (bC (aF (aV rfl rfl rfl ⟨rfl,T⟩)))
     replace hm:=cT c14 hm;refine ig c14<|wp_seq<|cZ rfl<|aT s1<|Du rfl<|gy 1 rfl<|gZ (.int .i64 d1.value) rfl (bV (cellT T (vk 1 _ rfl)))<|RQ.call rfl (Vu rfl rfl rfl) (by kernel_rfl) (v:=.bool (ni d1.value 1 6)) (bel (K:=fun _=>True) fun w' hb'=>(KR (mD d1.value 1 6 w')))<|dF (.bool (ni d1.value 1 6)) ?_;rcases aB (ni d1.value 1 6) with c37|c37
     ·replace hm:=cF c37 hm;iterate 6 refine RQ.skip (oL 67 c37) ?_
      refine dN false (.bool false) (vb rfl c37)<|dF (.bool false) ?_;iterate 7 refine RQ.skip (zZ 75) ?_
      refine dN false (.bool false) rfl<|aW (.bool false)<|RQ.nil ?_;intro w38 axB;have ap3:=axB.size;have T:=Tt T axB;refine ah<|wp_ret ?_
      cases hm
      exact (bC (aF (aV rfl rfl rfl ⟨rfl,T⟩)))
     replace hm:=cT c37 hm;refine RQ.y (bT 67 c37) (Y.move (v:=.pointer (some ⟨P_,TU,none⟩)) s1)<|RQ.y (bT 67 c37) (Y.nilCheck rfl)<|RQ.y (bT 67 c37) (Y.fieldAddr (off:=2) rfl (by kernel_rfl))<|RQ.y (bT 67 c37) (Y.load (v:=.slice A2 d1.data.length c2) rfl (by kernel_rfl) (bV (cellT T (vk 2 _ rfl))))<|RQ.y (bT 67 c37) (Y.len (by kernel_rfl) rfl)<|RQ.y (bT 67 c37) (Y.dS (v:=.bool ((d1.data.length:Int)==1)) rfl rfl rfl)<|dN true (.bool ((d1.data.length:Int)==1)) (vb rfl c37)<|dF (.bool ((d1.data.length:Int)==1)) ?_;rcases aB ((d1.data.length:Int)==1) with c40|c40
     ·replace hm:=cF c40 hm;iterate 7 refine RQ.skip (oL 75 c40) ?_
      refine dN false (.bool false) (vb rfl c40)<|aW (.bool false)<|RQ.nil ?_;intro w41 aP4;have a9d:=aP4.size;have T:=Tt T aP4;refine ah<|wp_ret ?_
      cases hm
      exact (bC (aF (aV rfl rfl rfl ⟨rfl,T⟩)))
     replace hm:=cT c40 hm;refine RQ.y (bT 75 c40) (Y.move (v:=.pointer (some ⟨P_,TU,none⟩)) s1)<|RQ.y (bT 75 c40) (Y.nilCheck rfl)<|RQ.y (bT 75 c40) (Y.fieldAddr (off:=2) rfl (by kernel_rfl))<|RQ.y (bT 75 c40) (Y.load (v:=.slice A2 d1.data.length c2) rfl (by kernel_rfl) (bV (cellT T (vk 2 _ rfl)))) ?_;obtain ⟨x43,axC,hm⟩:=bnd hm;obtain ⟨k44,aAG,aGu,axC⟩:=aU axC;obtain ⟨b50,o51,rfl,a9e⟩:=h2.addr (by omega);obtain ⟨bav,aAH,aX7⟩:=h2.el axC;have aX8:=aAH;obtain rfl:=aAH;refine RQ.y (bT 75 c40) (Y.indexAddr (m:=k44) (sz:=1) rfl rfl aAG aGu (by kernel_rfl))<|RQ.y (bT 75 c40) (Y.load (v:=.int .i64 x43) rfl (by kernel_rfl) (bV (cellT T (aX7 0 _ rfl))))<|RQ.call (bT 75 c40) (Vu rfl rfl rfl) (by kernel_rfl) (v:=.bool (ni x43 (-2147483648) 2147483647)) (bel (K:=fun _=>True) fun w' hb'=>(KR (mD x43 (-2147483648) 2147483647 w')))<|dN true (.bool (ni x43 (-2147483648) 2147483647)) (vb rfl c40)<|aW (.bool (ni x43 (-2147483648) 2147483647))<|RQ.nil ?_;intro w52 aP5;have a9f:=aP5.size;have T:=Tt T aP5;refine ah<|wp_ret ?_
     cases hm
     exact (bC (aF (aV rfl rfl rfl ⟨rfl,T⟩)))
    replace hm:=cT c13 hm;refine ig c13<|wp_seq<|cZ rfl<|aT s1<|Du rfl<|gy 1 rfl<|gZ (.int .i64 d1.value) rfl (bV (cellT T (vk 1 _ rfl)))<|aT s2 ?_;obtain ⟨s54,aGv,hm⟩:=bnd hm;replace aGv:=jg aGv;refine uZ (.int .i64 s54) rfl rfl (by rw [BN aGv.2,aGv.1])<|RQ.call rfl (Vu rfl rfl rfl) (by kernel_rfl) (v:=.bool (ni d1.value 0 s54)) (bel (K:=fun _=>True) fun w' hb'=>(KR (mD d1.value 0 s54 w')))<|dF (.bool (ni d1.value 0 s54)) ?_;rcases aB (ni d1.value 0 s54) with c55|c55
    ·replace hm:=cF c55 hm;iterate 6 refine RQ.skip (oL 52 c55) ?_
     refine dN false (.bool false) (vb rfl c55)<|aW (.bool false)<|RQ.nil ?_;intro w56 aj6;have aP6:=aj6.size;have T:=Tt T aj6;refine ah<|wp_ret ?_
     cases hm
     exact (bC (aF (aV rfl rfl rfl ⟨rfl,T⟩)))
    replace hm:=cT c55 hm;refine RQ.y (bT 52 c55) (Y.move (v:=.pointer (some ⟨P_,TU,none⟩)) s1)<|RQ.y (bT 52 c55) (Y.nilCheck rfl)<|RQ.y (bT 52 c55) (Y.fieldAddr (off:=2) rfl (by kernel_rfl))<|RQ.y (bT 52 c55) (Y.load (v:=.slice A2 d1.data.length c2) rfl (by kernel_rfl) (bV (cellT T (vk 2 _ rfl))))<|RQ.y (bT 52 c55) (Y.len (by kernel_rfl) rfl)<|RQ.y (bT 52 c55) (Y.dS (v:=.bool ((d1.data.length:Int)==0)) rfl rfl rfl)<|dN true (.bool ((d1.data.length:Int)==0)) (vb rfl c55)<|aW (.bool ((d1.data.length:Int)==0))<|RQ.nil ?_;intro w58 adT;have awl:=adT.size;have T:=Tt T adT;refine ah<|wp_ret ?_
    cases hm
    exact (bC (aF (aV rfl rfl rfl ⟨rfl,T⟩)))
   replace hm:=cT c12 hm;refine ig c12<|wp_skip<|ah<|ig c12<|wp_seq<|cZ rfl<|aT s1<|Du rfl<|gy 1 rfl<|gZ (.int .i64 d1.value) rfl (bV (cellT T (vk 1 _ rfl)))<|aT s2 ?_;obtain ⟨s60,aGw,hm⟩:=bnd hm;replace aGw:=jg aGw;refine uZ (.int .i64 s60) rfl rfl (by rw [BN aGw.2,aGw.1])<|RQ.call rfl (Vu rfl rfl rfl) (by kernel_rfl) (v:=.bool (ni d1.value 0 s60)) (bel (K:=fun _=>True) fun w' hb'=>(KR (mD d1.value 0 s60 w')))<|dF (.bool (ni d1.value 0 s60)) ?_;rcases aB (ni d1.value 0 s60) with Ze|Ze
   ·replace hm:=cF Ze hm;iterate 6 refine RQ.skip (oL 52 Ze) ?_
    refine dN false (.bool false) (vb rfl Ze)<|aW (.bool false)<|RQ.nil ?_;intro w62 aP7;have aP8:=aP7.size;have T:=Tt T aP7;refine ah<|wp_ret ?_
    cases hm
    exact (bC (aF (aV rfl rfl rfl ⟨rfl,T⟩)))
   replace hm:=cT Ze hm;refine RQ.y (bT 52 Ze) (Y.move (v:=.pointer (some ⟨P_,TU,none⟩)) s1)<|RQ.y (bT 52 Ze) (Y.nilCheck rfl)<|RQ.y (bT 52 Ze) (Y.fieldAddr (off:=2) rfl (by kernel_rfl))<|RQ.y (bT 52 Ze) (Y.load (v:=.slice A2 d1.data.length c2) rfl (by kernel_rfl) (bV (cellT T (vk 2 _ rfl))))<|RQ.y (bT 52 Ze) (Y.len (by kernel_rfl) rfl)<|RQ.y (bT 52 Ze) (Y.dS (v:=.bool ((d1.data.length:Int)==0)) rfl rfl rfl)<|dN true (.bool ((d1.data.length:Int)==0)) (vb rfl Ze)<|aW (.bool ((d1.data.length:Int)==0))<|RQ.nil ?_;intro w64 Wi;have aAI:=Wi.size;have T:=Tt T Wi;refine ah<|wp_ret ?_
   cases hm
   exact (bC (aF (aV rfl rfl rfl ⟨rfl,T⟩)))
  replace hm:=cT c6 hm;refine ig c6<|wp_seq<|cZ rfl<|aT s1<|Du rfl<|gy 1 rfl<|gZ (.int .i64 d1.value) rfl (bV (cellT T (vk 1 _ rfl)))<|RQ.call rfl (Vu rfl rfl rfl) (by kernel_rfl) (v:=.bool (ni d1.value 1 6)) (bel (K:=fun _=>True) fun w' hb'=>(KR (mD d1.value 1 6 w')))<|dF (.bool (ni d1.value 1 6)) ?_;rcases aB (ni d1.value 1 6) with c66|c66
  ·replace hm:=cF c66 hm;iterate 6 refine RQ.skip (oL 17 c66) ?_
   refine dN false (.bool false) (vb rfl c66)<|dF (.bool false) ?_;iterate 6 refine RQ.skip (zZ 25) ?_
   refine dN false (.bool false) rfl<|aW (.bool false)<|RQ.nil ?_;intro w67 adU;have aAJ:=adU.size;have T:=Tt T adU;refine ah<|wp_ret ?_
   cases hm
   exact (aF (aV rfl rfl rfl ⟨rfl,T⟩))
  replace hm:=cT c66 hm;refine RQ.y (bT 17 c66) (Y.move (v:=.pointer (some ⟨P_,TU,none⟩)) s1)<|RQ.y (bT 17 c66) (Y.nilCheck rfl)<|RQ.y (bT 17 c66) (Y.fieldAddr (off:=2) rfl (by kernel_rfl))<|RQ.y (bT 17 c66) (Y.load (v:=.slice A2 d1.data.length c2) rfl (by kernel_rfl) (bV (cellT T (vk 2 _ rfl))))<|RQ.y (bT 17 c66) (Y.len (by kernel_rfl) rfl)<|RQ.y (bT 17 c66) (Y.dS (v:=.bool ((d1.data.length:Int)==0)) rfl rfl rfl)<|dN true (.bool ((d1.data.length:Int)==0)) (vb rfl c66)<|dF (.bool ((d1.data.length:Int)==0)) ?_;rcases aB ((d1.data.length:Int)==0) with c69|c69
  ·replace hm:=cF c69 hm;iterate 6 refine RQ.skip (oL 25 c69) ?_
   refine dN false (.bool false) (vb rfl c69)<|aW (.bool false)<|RQ.nil ?_;intro w70 Wj;have aI5:=Wj.size;have T:=Tt T Wj;refine ah<|wp_ret ?_
   cases hm
   exact (aF (aV rfl rfl rfl ⟨rfl,T⟩))
  replace hm:=cT c69 hm;refine RQ.y (bT 25 c69) (Y.move (v:=.pointer (some ⟨qg,qh,none⟩)) s0)<|RQ.y (bT 25 c69) (Y.move (v:=.pointer (some ⟨P_,TU,none⟩)) s1)<|RQ.y (bT 25 c69) (Y.nilCheck rfl)<|RQ.y (bT 25 c69) (Y.fieldAddr (off:=3) rfl (by kernel_rfl))<|RQ.y (bT 25 c69) (Y.move (v:=.int .i64 d2) s2) ?_;obtain ⟨y72,e73,hm⟩:=bnd hm;refine RQ.call (bT 25 c69) (Vu rfl rfl rfl) (by kernel_rfl) (v:=.bool y72) (bel (K:=fun _=>True) fun w' hb'=>(EF d0 d1.closure d2 _ e73 _ _ w' (l9 jP qm qB eu (Tt T hb')) (NG (R:=dM) qA V9 (pre:=[.int .i64 d1.kind,.int .i64 d1.value,.slice A2 d1.data.length c2]) (cs:=[.int .i64 d1.closure.term.kind,.int .i64 d1.closure.term.value,.slice A3 d1.closure.term.data.length c3,.slice A4 d1.closure.term.kids.length c4,.slice A5 d1.closure.env.length c5]) (post:=[]) ⟨_,_,_,_,_,_,_,_,_,rfl,⟨h3,r3⟩,⟨h4,r4⟩,⟨h5,r5⟩⟩ vk (Tt T hb'))))<|dN true (.bool y72) (vb rfl c69)<|aW (.bool y72)<|RQ.nil ?_;intro w74 LV;have aAK:=LV.size;have T:=Tt T LV;refine ah<|wp_ret ?_
  cases hm
  exact (aF (aV rfl rfl rfl ⟨rfl,T⟩))
noncomputable def yJ:Option Bool:=
  some true
noncomputable def BR (d0:dY) (d1:aN) (Jk:Int→Option Bool) (K2:Option Bool) (i21:Int):Option Bool:=
  (bif (decide (i21 < (d1.heap.length:Int))) then ((fC d1.heap i21).bind fun x24=>((qF d0 x24.closure (d1.heap.length:Int)).bind fun y36=>(bif y36 then (bif x24.done then ((zi x24.closure).bind fun y44=>(bif y44 then (Jk (i21+1)) else some false)) else (Jk (i21+1))) else some false))) else (K2))
noncomputable def oH (d0:dY) (d1:aN) (K2:Option Bool):Nat→Int→Option Bool
  |0,_=>none
  |g+1,i21=>BR d0 d1 (oH d0 d1 K2 g) K2 i21
noncomputable def uQ (d0:dY) (d1:aN):Option Bool:=
  (oH d0 d1 yJ (d1.heap.length+1) 0)
noncomputable def BU (d0:dY) (d1:aN) (eU:Int→Option Bool) (K1:Option Bool) (i50:Int):Option Bool:=
  (bif (decide (i50 < (d1.stack.length:Int))) then ((fC d1.stack i50).bind fun x53=>((BQ d0 x53 (d1.heap.length:Int)).bind fun y66=>(bif y66 then (eU (i50+1)) else some false))) else (K1))
noncomputable def oI (d0:dY) (d1:aN) (K1:Option Bool):Nat→Int→Option Bool
  |0,_=>none
  |g+1,i50=>BU d0 d1 (oI d0 d1 K1 g) K1 i50
noncomputable def Hr (d0:dY) (d1:aN):Option Bool:=
  ((Dy d0).bind fun y7=>(bif y7 then (bif (decide ((d1.heap.length:Int) > 2000)) then some false else (bif (decide ((d1.stack.length:Int) > 400)) then some false else ((qF d0 d1.control (d1.heap.length:Int)).bind fun uN=>(bif uN then (oI d0 d1 (uQ d0 d1) (d1.stack.length+1) 0) else some false)))) else some false))
set_option maxHeartbeats 2000000 in
theorem ahe (d0:dY) (d1:aN) (r:Bool) (hm:Hr d0 d1=some r) (v0:Value) (v1:Value) (w:World) (hv0:Pt iI w v0 d0) (hv1:Pt jQ w v1 d1) :
    Calls Tryz.prog 19 #[v0,v1] w fun e w'=>e=.returned (.bool r)∧Below w.heap.size w w':=by
  obtain ⟨qg,qh,lg,rfl,qm,jR,eu⟩:=hv0;have qB:=jR;obtain ⟨A1,n1,c1,rfl,⟨h1,r1⟩⟩:=jR;obtain ⟨rfl,q1⟩:=bI h1 r1;obtain ⟨P_,TU,SG,rfl,V9,KW,vk⟩:=hv1;have ahc:=KW;obtain ⟨A2,n2,c2,A3,n3,c3,A4,n4,c4,A5,n5,c5,A6,n6,c6,rfl,⟨h2,r2⟩,⟨h3,r3⟩,⟨h4,r4⟩,⟨h5,r5⟩,⟨h6,r6⟩⟩:=KW;obtain ⟨rfl,q2⟩:=bI h2 r2;obtain ⟨rfl,q3⟩:=bI h3 r3;obtain ⟨rfl,q4⟩:=bI h4 r4;obtain ⟨rfl,q5⟩:=bI h5 r5;obtain ⟨rfl,q6⟩:=bI h6 r6;have T:=Below.refl w.heap.size w;unfold Hr at hm;refine enter 92 Tryz.func19 rfl rfl rfl ?_;intro f hf;have s0:f 0=.pointer (some ⟨qg,qh,none⟩):=hf 0 _ rfl;have s1:f 1=.pointer (some ⟨P_,TU,none⟩):=hf 1 _ rfl;refine wp_seq<|au rfl<|aW (.bool false)<|RQ.nil<|ah<|wp_seq<|au rfl<|aT s1<|Du rfl<|gy 6 rfl<|gZ (.slice A6 d1.heap.length c6) rfl (cu (cellT T (vk 6 _ rfl)))<|yH rfl<|aW (.int .i64 (d1.heap.length:Int))<|RQ.nil<|ah<|wp_seq<|wp_seq<|cZ rfl<|aT s0 ?_;obtain ⟨y7,e8,hm⟩:=bnd hm;refine RQ.call rfl (qZ rfl) (by kernel_rfl) (v:=.bool y7) (bel (K:=fun _=>True) fun w' hb'=>(adR d0 _ e8 _ w' (l9 jP qm qB eu (Tt T hb'))))<|RQ.y rfl (Y.not (b':=(!y7)) rfl rfl)<|dF (.bool (!y7)) ?_;rcases aB y7 with c9|c9
  ·replace hm:=cF c9 hm;refine RQ.skip (Gq (dj:=17) rfl (gQ rfl c9 rfl) rfl)<|RQ.skip (Gq (dj:=17) rfl (gQ rfl c9 rfl) rfl)<|dN true (.bool true) (gQ rfl c9 rfl)<|dF (.bool true) ?_;iterate 6 refine RQ.skip (zZ 21) ?_
   refine dN true (.bool true) rfl<|dF (.bool true) ?_;iterate 7 refine RQ.skip (zZ 29) ?_
   refine dN true (.bool true) rfl<|RQ.nil ?_;intro w10 Bo;have apY:=Bo.size;have T:=Tt T Bo;refine ah<|dX rfl rfl<|wp_seq<|au rfl<|aW (.bool false)<|RQ.nil<|ah<|wp_ret ?_
   cases hm
   exact (aF (aV rfl rfl rfl ⟨rfl,T⟩))
  replace hm:=cT c9 hm;refine RQ.y (eG (dj:=17) rfl (gQ rfl c9 rfl)) (Y.move (v:=.int .i64 (d1.heap.length:Int)) rfl)<|RQ.y (eG (dj:=17) rfl (gQ rfl c9 rfl)) (Y.dS (v:=.bool (decide ((d1.heap.length:Int) > 2000))) rfl rfl rfl)<|dN false (.bool (decide ((d1.heap.length:Int) > 2000))) (gQ rfl c9 rfl)<|dF (.bool (decide ((d1.heap.length:Int) > 2000))) ?_;rcases aB (decide ((d1.heap.length:Int) > 2000)) with c12|c12
  ·replace hm:=cF c12 hm;have ahf:=of_decide_eq_false c12;refine RQ.y (bT 21 c12) (Y.move (v:=.pointer (some ⟨P_,TU,none⟩)) s1)<|RQ.y (bT 21 c12) (Y.nilCheck rfl)<|RQ.y (bT 21 c12) (Y.fieldAddr (off:=5) rfl (by kernel_rfl))<|RQ.y (bT 21 c12) (Y.load (v:=.slice A5 d1.stack.length c5) rfl (by kernel_rfl) (bV (cellT T (vk 5 _ rfl))))<|RQ.y (bT 21 c12) (Y.len (by kernel_rfl) rfl)<|RQ.y (bT 21 c12) (Y.dS (v:=.bool (decide ((d1.stack.length:Int) > 400))) rfl rfl rfl)<|dN false (.bool (decide ((d1.stack.length:Int) > 400))) (vb rfl c12)<|dF (.bool (decide ((d1.stack.length:Int) > 400))) ?_;rcases aB (decide ((d1.stack.length:Int) > 400)) with c13|c13
   ·replace hm:=cF c13 hm;have ag4:=of_decide_eq_false c13;refine RQ.y (bT 29 c13) (Y.move (v:=.pointer (some ⟨qg,qh,none⟩)) s0)<|RQ.y (bT 29 c13) (Y.move (v:=.pointer (some ⟨P_,TU,none⟩)) s1)<|RQ.y (bT 29 c13) (Y.nilCheck rfl)<|RQ.y (bT 29 c13) (Y.fieldAddr (off:=0) rfl (by kernel_rfl))<|RQ.y (bT 29 c13) (Y.move (v:=.int .i64 (d1.heap.length:Int)) rfl) ?_;obtain ⟨uN,e15,hm⟩:=bnd hm;refine RQ.call (bT 29 c13) (Vu rfl rfl rfl) (by kernel_rfl) (v:=.bool uN) (bel (K:=fun _=>True) fun w' hb'=>(EF d0 d1.control (d1.heap.length:Int) _ e15 _ _ w' (l9 jP qm qB eu (Tt T hb')) (NG (R:=dM) qA V9 (pre:=[]) (cs:=[.int .i64 d1.control.term.kind,.int .i64 d1.control.term.value,.slice A2 d1.control.term.data.length c2,.slice A3 d1.control.term.kids.length c3,.slice A4 d1.control.env.length c4]) (post:=[.slice A5 d1.stack.length c5,.slice A6 d1.heap.length c6]) ⟨_,_,_,_,_,_,_,_,_,rfl,⟨h2,r2⟩,⟨h3,r3⟩,⟨h4,r4⟩⟩ vk (Tt T hb'))))<|RQ.y (bT 29 c13) (Y.not (b':=(!uN)) rfl rfl)<|dN false (.bool (!uN)) (vb rfl c13)<|RQ.nil ?_;intro w16 Dq;have av5:=Dq.size;have T:=Tt T Dq;refine ah ?_;rcases aB uN with c18|c18
    ·replace hm:=cF c18 hm;refine dX rfl (gQ rfl c18 rfl)<|wp_seq<|au rfl<|aW (.bool false)<|RQ.nil<|ah<|wp_ret ?_
     cases hm
     exact (aF (aV rfl rfl rfl ⟨rfl,T⟩))
    replace hm:=cT c18 hm;refine gU rfl (gQ rfl c18 rfl)<|wp_skip<|ah<|wp_seq<|wp_seq<|au rfl<|aW (.int .i64 0)<|RQ.nil<|ah<|wp_block ?_;obtain ⟨K1,hK1,hm⟩ :∃K,K=(uQ d0 d1)∧oI d0 d1 K (d1.stack.length+1) 0=some r:=⟨_,rfl,hm⟩;refine dG (fun g f w'=>∃(i50:Int),f 0=.pointer (some ⟨qg,qh,none⟩)∧f 1=.pointer (some ⟨P_,TU,none⟩)∧f 5=.int .i64 (d1.heap.length:Int)∧f 6=.int .i64 i50∧0≤i50∧Below w.heap.size w w'∧oI d0 d1 K1 g i50=some r) 0 (fun f w'=>f 0=.pointer (some ⟨qg,qh,none⟩)∧f 1=.pointer (some ⟨P_,TU,none⟩)∧f 5=.int .i64 (d1.heap.length:Int)∧Below w.heap.size w w'∧uQ d0 d1  = some r) (d1.stack.length+1) ⟨0,s0,s1,rfl,rfl,(by omega),T,hm⟩ ?_ ?_
    ·rintro f w19 ⟨abg,BO,aAL,T,hm⟩;unfold uQ at hm;refine dW (ah ?_);refine wp_seq<|wp_seq<|au rfl<|aW (.int .i64 0)<|RQ.nil<|ah<|wp_block ?_;obtain ⟨K2,hK2,hm⟩ :∃K,K=yJ∧oH d0 d1 K (d1.heap.length+1) 0=some r:=⟨_,rfl,hm⟩;refine dG (fun g f w'=>∃(i21:Int),f 0=.pointer (some ⟨qg,qh,none⟩)∧f 1=.pointer (some ⟨P_,TU,none⟩)∧f 5=.int .i64 (d1.heap.length:Int)∧f 7=.int .i64 i21∧0≤i21∧Below w.heap.size w w'∧oH d0 d1 K2 g i21=some r) 2 (fun f w'=>Below w.heap.size w w'∧yJ  = some r) (d1.heap.length+1) ⟨0,abg,BO,aAL,rfl,(by omega),T,hm⟩ ?_ ?_
     ·rintro f w20 ⟨T,hm⟩;unfold yJ at hm;refine dW (ah ?_);refine wp_seq<|au rfl<|aW (.bool true)<|RQ.nil<|ah<|wp_ret ?_
      cases hm
      exact (aV rfl rfl rfl ⟨rfl,T⟩)
     rintro g f MO ⟨i21,PO,adP,aKT,ahg,a9g,T,hm⟩;rcases g with _|g
     ·simp only [oH] at hm; cases hm
     obtain ⟨Jk,Gw,hm⟩ :∃z,z=oH d0 d1 K2 g∧BR d0 d1 z K2 i21=some r:=⟨_,rfl,hm⟩;unfold BR at hm;refine wp_seq<|wp_seq<|au rfl<|aT ahg<|aT adP<|Du rfl<|gy 6 rfl<|gZ (.slice A6 d1.heap.length c6) rfl (cu (cellT T (vk 6 _ rfl)))<|yH rfl<|iq (.bool (decide (i21 < (d1.heap.length:Int))))<|RQ.nil<|ah ?_;rcases aB (decide (i21 < (d1.heap.length:Int))) with c23|c23
     ·replace hm:=cF c23 hm;have aX9:=of_decide_eq_false c23;refine iH c23<|wp_exit ?_;exact (bQ (bQ (iW ⟨_,rfl,⟨T,(by rw [hK2] at hm; exact hm)⟩⟩)))
     replace hm:=cT c23 hm;have aX9:=of_decide_eq_true c23;refine ig c23<|wp_skip<|ah<|wp_seq<|wp_block<|wp_seq<|au rfl<|aT adP<|Du rfl<|gy 6 rfl<|gZ (.slice A6 d1.heap.length c6) rfl (cu (cellT T (vk 6 _ rfl)))<|aT ahg ?_;obtain ⟨x24,hx27,hm⟩:=bnd hm;obtain ⟨k25,anv,asZ,hx27⟩:=aU hx27;obtain ⟨b31,o32,rfl,aAM⟩:=h6.addr (by omega);obtain ⟨aX_,ahh,ap4⟩:=h6.el hx27;have aKU:=ahh;obtain ⟨A33,n33,LH,A34,n34,c34,A35,n35,c35,rfl,⟨h33,r33⟩,⟨h34,r34⟩,⟨h35,r35⟩⟩:=ahh;obtain ⟨rfl,q33⟩:=bI h33 r33;obtain ⟨rfl,q34⟩:=bI h34 r34;obtain ⟨rfl,q35⟩:=bI h35 r35;refine RQ.y rfl (Y.indexAddr (m:=k25) (sz:=6) rfl rfl anv asZ (by kernel_rfl))<|aW (.pointer (some ⟨b31,o32+k25 * 6,none⟩))<|RQ.nil<|ah<|wp_seq<|cZ rfl<|aT PO<|dF (.pointer (some ⟨b31,o32+k25 * 6,none⟩))<|Du rfl<|gy 1 rfl<|aT aKT ?_;obtain ⟨y36,e37,hm⟩:=bnd hm;refine RQ.call rfl (Vu rfl rfl rfl) (by kernel_rfl) (v:=.bool y36) (bel (K:=fun _=>True) fun w' hb'=>(EF d0 x24.closure (d1.heap.length:Int) _ e37 _ _ w' (l9 jP qm qB eu (Tt T hb')) (NG (R:=dM) qA aAM (pre:=[.bool x24.done]) (cs:=[.int .i64 x24.closure.term.kind,.int .i64 x24.closure.term.value,.slice A33 x24.closure.term.data.length LH,.slice A34 x24.closure.term.kids.length c34,.slice A35 x24.closure.env.length c35]) (post:=[]) ⟨_,_,_,_,_,_,_,_,_,rfl,⟨h33,r33⟩,⟨h34,r34⟩,⟨h35,r35⟩⟩ ap4 (Tt T hb'))))<|RQ.y rfl (Y.not (b':=(!y36)) rfl rfl)<|dF (.bool (!y36)) ?_;rcases aB y36 with GK|GK
     ·replace hm:=cF GK hm;iterate 5 refine RQ.skip (Gq (dj:=79) rfl (gQ rfl GK rfl) rfl) ?_
      iterate 5 refine RQ.skip rfl ?_
      refine RQ.skip (Gq (dj:=79) rfl (gQ rfl GK rfl) rfl)<|dN true (.bool true) (gQ rfl GK rfl)<|RQ.nil ?_;intro w39 SK;have ap5:=SK.size;have T:=Tt T SK;refine ah<|dX rfl rfl<|wp_seq<|au rfl<|aW (.bool false)<|RQ.nil<|ah<|wp_ret ?_
      cases hm
      exact (bC (aF (aF (jG (bC (aF (aV rfl rfl rfl ⟨rfl,T⟩)))))))
     replace hm:=cT GK hm;refine RQ.y (eG (dj:=79) rfl (gQ rfl GK rfl)) (Y.move (v:=.pointer (some ⟨b31,o32+k25 * 6,none⟩)) rfl)<|RQ.y (eG (dj:=79) rfl (gQ rfl GK rfl)) (Y.nilCheck rfl)<|RQ.y (eG (dj:=79) rfl (gQ rfl GK rfl)) (Y.fieldAddr (off:=0) rfl (by kernel_rfl))<|RQ.y (eG (dj:=79) rfl (gQ rfl GK rfl)) (Y.load (v:=.bool x24.done) rfl (by kernel_rfl) (bV (cellT T (ap4 0 _ rfl))))<|RQ.y (eG (dj:=79) rfl (gQ rfl GK rfl)) (Y.move (v:=.bool x24.done) rfl) ?_;rcases aB x24.done with WC|WC
     ·replace hm:=cF WC hm;iterate 5 refine RQ.skip (oL 84 WC) ?_
      refine RQ.y (eG (dj:=79) rfl (gQ rfl GK rfl)) (Y.pick (b:=false) (v:=.bool false) (vb rfl WC) rfl)<|dN false (.bool false) (gQ rfl GK rfl)<|RQ.nil ?_;intro w42 WR;have ap0:=WR.size;have T:=Tt T WR;refine ah<|gU rfl rfl<|wp_skip ?_;refine eF (ah ?_);refine au rfl<|aT ahg<|RQ.y rfl (Y.dS rfl rfl (bn (m:=i21) (by omega)))<|aW (.int .i64 (i21+1))<|RQ.nil ?_;exact (ah ⟨g,_,Nat.lt_succ_self _,rfl,⟨(i21+1),PO,adP,aKT,rfl,(by omega),T,(by rw [← Gw]; exact hm)⟩⟩)
     replace hm:=cT WC hm;refine RQ.y (bT 84 WC) (Y.move (v:=.pointer (some ⟨b31,o32+k25 * 6,none⟩)) rfl)<|RQ.y (bT 84 WC) (Y.nilCheck rfl)<|RQ.y (bT 84 WC) (Y.fieldAddr (off:=1) rfl (by kernel_rfl)) ?_;obtain ⟨y44,e45,hm⟩:=bnd hm;refine RQ.call (bT 84 WC) (qZ rfl) (by kernel_rfl) (v:=.bool y44) (bel (K:=fun _=>True) fun w' hb'=>(Zf x24.closure _ e45 _ w' (NG (R:=dM) qA aAM (pre:=[.bool x24.done]) (cs:=[.int .i64 x24.closure.term.kind,.int .i64 x24.closure.term.value,.slice A33 x24.closure.term.data.length LH,.slice A34 x24.closure.term.kids.length c34,.slice A35 x24.closure.env.length c35]) (post:=[]) ⟨_,_,_,_,_,_,_,_,_,rfl,⟨h33,r33⟩,⟨h34,r34⟩,⟨h35,r35⟩⟩ ap4 (Tt T hb'))))<|RQ.y (bT 84 WC) (Y.not (b':=(!y44)) rfl rfl)<|RQ.y (eG (dj:=79) rfl (gQ rfl GK rfl)) (Y.pick (b:=true) (v:=.bool (!y44)) (vb rfl WC) rfl)<|dN false (.bool (!y44)) (gQ rfl GK rfl)<|RQ.nil ?_;intro w46 abm;have aAN:=abm.size;have T:=Tt T abm;refine ah ?_;rcases aB y44 with c48|c48
     ·replace hm:=cF c48 hm;refine dX rfl (gQ rfl c48 rfl)<|wp_seq<|au rfl<|aW (.bool false)<|RQ.nil<|ah<|wp_ret ?_
      cases hm
      exact (bC (aF (aF (jG (bC (aF (aV rfl rfl rfl ⟨rfl,T⟩)))))))
     replace hm:=cT c48 hm;refine gU rfl (gQ rfl c48 rfl)<|wp_skip ?_;refine eF (ah ?_);refine au rfl<|aT ahg<|RQ.y rfl (Y.dS rfl rfl (bn (m:=i21) (by omega)))<|aW (.int .i64 (i21+1))<|RQ.nil ?_;exact (ah ⟨g,_,Nat.lt_succ_self _,rfl,⟨(i21+1),PO,adP,aKT,rfl,(by omega),T,(by rw [← Gw]; exact hm)⟩⟩)
    rintro g f w51 ⟨i50,dQ,iF,jD,I8,aP9,T,hm⟩;rcases g with _|g
    ·simp only [oI] at hm; cases hm
    obtain ⟨eU,d_,hm⟩ :∃z,z=oI d0 d1 K1 g∧BU d0 d1 z K1 i50=some r:=⟨_,rfl,hm⟩;unfold BU at hm;refine wp_seq<|wp_seq<|au rfl<|aT I8<|aT iF<|Du rfl<|gy 5 rfl<|gZ (.slice A5 d1.stack.length c5) rfl (cu (cellT T (vk 5 _ rfl)))<|yH rfl<|iq (.bool (decide (i50 < (d1.stack.length:Int))))<|RQ.nil<|ah ?_;rcases aB (decide (i50 < (d1.stack.length:Int))) with JR|JR
    ·replace hm:=cF JR hm;have aKV:=of_decide_eq_false JR;refine iH JR<|wp_exit ?_;exact (bQ (bQ (iW ⟨_,rfl,⟨dQ,iF,jD,T,(by rw [hK1] at hm; exact hm)⟩⟩)))
    replace hm:=cT JR hm;have aKV:=of_decide_eq_true JR;refine ig JR<|wp_skip<|ah<|wp_seq<|wp_block<|wp_seq<|cZ rfl<|aT dQ<|aT iF<|Du rfl<|gy 5 rfl<|gZ (.slice A5 d1.stack.length c5) rfl (bV (cellT T (vk 5 _ rfl)))<|aT I8 ?_;obtain ⟨x53,aKW,hm⟩:=bnd hm;obtain ⟨k54,aYa,aYb,aKW⟩:=aU aKW;obtain ⟨b60,o61,rfl,aP_⟩:=h5.addr (by omega);obtain ⟨baw,aAO,aYc⟩:=h5.el aKW;have aKX:=aAO;obtain ⟨A62,n62,c62,A63,n63,c63,A64,n64,c64,A65,n65,c65,rfl,⟨h62,r62⟩,⟨h63,r63⟩,⟨h64,r64⟩,⟨h65,r65⟩⟩:=aAO;obtain ⟨rfl,q62⟩:=bI h62 r62;obtain ⟨rfl,q63⟩:=bI h63 r63;obtain ⟨rfl,q64⟩:=bI h64 r64;obtain ⟨rfl,q65⟩:=bI h65 r65;refine RQ.y rfl (Y.indexAddr (m:=k54) (sz:=8) rfl rfl aYa aYb (by kernel_rfl))<|aT jD ?_;obtain ⟨y66,e67,hm⟩:=bnd hm;refine RQ.call rfl (Vu rfl rfl rfl) (by kernel_rfl) (v:=.bool y66) (bel (K:=fun _=>True) fun w' hb'=>(abk d0 x53 (d1.heap.length:Int) _ e67 _ _ w' (l9 jP qm qB eu (Tt T hb')) (l9 kF aP_ aKX aYc (Tt T hb'))))<|RQ.y rfl (Y.not (b':=(!y66)) rfl rfl)<|RQ.nil ?_;intro w68 as3;have aI6:=as3.size;have T:=Tt T as3;refine ah ?_;rcases aB y66 with c70|c70
    ·replace hm:=cF c70 hm;refine dX rfl (gQ rfl c70 rfl)<|wp_seq<|au rfl<|aW (.bool false)<|RQ.nil<|ah<|wp_ret ?_
     cases hm
     exact (bC (aF (aF (jG (bC (aF (aV rfl rfl rfl ⟨rfl,T⟩)))))))
    replace hm:=cT c70 hm;refine gU rfl (gQ rfl c70 rfl)<|wp_skip ?_;refine eF (ah ?_);refine au rfl<|aT I8<|RQ.y rfl (Y.dS rfl rfl (bn (m:=i50) (by omega)))<|aW (.int .i64 (i50+1))<|RQ.nil ?_;exact (ah ⟨g,_,Nat.lt_succ_self _,rfl,⟨(i50+1),dQ,iF,jD,rfl,(by omega),T,(by rw [← d_]; exact hm)⟩⟩)
   replace hm:=cT c13 hm;have ag4:=of_decide_eq_true c13;iterate 7 refine RQ.skip (oL 29 c13) ?_
   refine dN true (.bool true) (vb rfl c13)<|RQ.nil ?_;intro w72 aAP;have aQc:=aAP.size;have T:=Tt T aAP;refine ah<|dX rfl rfl<|wp_seq<|au rfl<|aW (.bool false)<|RQ.nil<|ah<|wp_ret ?_
   cases hm
   exact (aF (aV rfl rfl rfl ⟨rfl,T⟩))
  replace hm:=cT c12 hm;have ahf:=of_decide_eq_true c12;iterate 6 refine RQ.skip (oL 21 c12) ?_
  refine dN true (.bool true) (vb rfl c12)<|dF (.bool true) ?_;iterate 7 refine RQ.skip (zZ 29) ?_
  refine dN true (.bool true) rfl<|RQ.nil ?_;intro w74 LV;have aAK:=LV.size;have T:=Tt T LV;refine ah<|dX rfl rfl<|wp_seq<|au rfl<|aW (.bool false)<|RQ.nil<|ah<|wp_ret ?_
  cases hm
  exact (aF (aV rfl rfl rfl ⟨rfl,T⟩))
noncomputable def og (d0:List Int):Option (List Int):=
  ((yB (([] : List Int).length+d0.length≤4294967296)).bind fun _=>some (([] : List Int) ++ d0))
set_option maxHeartbeats 2000000 in
theorem BX (d0:List Int) (r:List Int) (hm:og d0=some r) (v0:Value) (w:World) (hv0:Sl nR 1 w v0 d0) :
    Calls Tryz.prog 85 #[v0] w fun e w'=>(∃(v0:Value),e=.returned (v0)∧aA 2 encI 1 w' w.heap.size v0 r)∧Below w.heap.size w w':=by
  obtain ⟨Bc,na0,ca0,rfl,ha0,GN⟩:=hv0;obtain ⟨rfl,qa0⟩:=bI ha0 GN;have T:=Below.refl w.heap.size w;unfold og at hm;refine enter 6 Tryz.func85 rfl rfl rfl ?_;intro f hf;have s0:f 0=.slice Bc d0.length ca0:=hf 0 _ rfl;refine wp_seq<|au rfl<|aW (.slice none 0 0)<|RQ.nil<|ah<|wp_seq<|bF rfl ?_;refine RL.yD (e:=2) (cells:=#[]) rfl pm0 (by kernel_rfl) (fun w1 B2 hb3 aYd=>?_);have ZB2:w.heap.size≤w.heap.size:=T.size;have T:=Tt T hb3;have G5:=aA.lit (enc:=encI) (sz:=1) (xs:=([] : List Int)) B2 ZB2 rfl rfl rfl rfl;refine kE s0 ?_;obtain ⟨_,m7,hm⟩:=bnd hm;have hk8:=h_ m7;refine RL.append fI Gs rfl rfl rfl G5 (eY aG ha0 GN T) T.size hk8 (fun v9 w10 G11 a9h aQd a9i=>?_);have T:=T.trans aQd;refine Ez v9<|RL.nil<|ah<|wp_ret ?_;obtain rfl:=sj hm;exact (aV rfl rfl rfl ⟨⟨_,rfl,G11⟩,T⟩)
noncomputable def nT (aAQ:List Bool):Option (List Bool):=
  some aAQ
noncomputable def zl (d0:aN) (eU:List Bool→List Int→Option (List Bool)) (K1:List Bool→Option (List Bool)) (WU:List Bool) (NS:List Int):Option (List Bool):=
  (bif (decide ((NS.length:Int) > 0)) then ((ck ((NS.length:Int) - 1)).bind fun s21=>((fC NS s21).bind fun x22=>((ck ((NS.length:Int) - 1)).bind fun s28=>((yB (0≤s28∧s28.toNat≤NS.length)).bind fun _=>((fC WU x22).bind fun x37=>(bif x37 then (eU WU (NS.take s28.toNat)) else ((fC WU x22).bind fun x44=>((fC d0.heap x22).bind fun x54=>((yB ((NS.take s28.toNat).length+x54.closure.env.length≤4294967296)).bind fun _=>(eU (kX WU x22 true) ((NS.take s28.toNat) ++ x54.closure.env))))))))))) else (K1 WU))
noncomputable def lW (d0:aN) (K1:List Bool→Option (List Bool)):Nat→List Bool→List Int→Option (List Bool)
  |0,_,_=>none
  |g+1,WU,NS=>zl d0 (lW d0 K1 g) K1 WU NS
noncomputable def lu (d0:aN) (d1:List Bool) (d2:List Int):Option (List Bool):=
  ((og d2).bind fun y6=>(lW d0 nT ((asQ d0+d2.length)+2) d1 y6))
set_option maxHeartbeats 2000000 in
theorem vX (d0:aN) (d1:List Bool) (d2:List Int) (r:List Bool) (hm:lu d0 d1 d2=some r) (v0:Value) (v2:Value) (v1:Value) (w ws:World) (hT0:Below w.heap.size w ws) (hv0:Pt jQ w v0 d0) (hv2:Sl nR 1 ws v2 d2) (hv1:aA 4 T_ 1 ws w.heap.size v1 d1) :
    Calls Tryz.prog 84 #[v0,v1,v2] ws fun e w'=>e=.returned (.tuple #[])∧aA 4 T_ 1 w' w.heap.size v1 r∧G_ v1 v1 ws w'∧Below w.heap.size w w':=by
  obtain ⟨qg,qh,lg,rfl,qm,jR,eu⟩:=hv0;have qB:=jR;obtain ⟨A1,n1,c1,A2,n2,c2,A3,n3,c3,A4,n4,c4,A5,n5,c5,rfl,⟨h1,r1⟩,⟨h2,r2⟩,⟨h3,r3⟩,⟨h4,r4⟩,⟨h5,r5⟩⟩:=jR;obtain ⟨rfl,q1⟩:=bI h1 r1;obtain ⟨rfl,q2⟩:=bI h2 r2;obtain ⟨rfl,q3⟩:=bI h3 r3;obtain ⟨rfl,q4⟩:=bI h4 r4;obtain ⟨rfl,q5⟩:=bI h5 r5;obtain ⟨Ap1,cp1,rfl⟩:=aA.form hv1;obtain ⟨Aa2,na2,ca2,rfl,ha2,ra2⟩:=hv2;obtain ⟨rfl,qa2⟩:=bI ha2 ra2;have T:=hT0;have LW:=hT0.size;have K:=G_.refl (.slice Ap1 d1.length cp1) (.slice Ap1 d1.length cp1) ws;unfold lu at hm;refine enter 43 Tryz.func84 rfl rfl rfl ?_;intro f hf;have s0:f 0=.pointer (some ⟨qg,qh,none⟩):=hf 0 _ rfl;have s1:f 1=.slice Ap1 d1.length cp1:=hf 1 _ rfl;have s2:f 2=.slice Aa2 d2.length ca2:=hf 2 _ rfl;refine wp_seq<|bF rfl<|kE s2 ?_;obtain ⟨y6,e7,hm⟩:=bnd hm;refine RL.call rfl (qZ rfl) (by kernel_rfl) ((BX d2 _ e7 _ _ (eY aG ha2 ra2 (Below.refl _ _))).mono ?_);rintro _ uS ⟨⟨v8,rfl,G9⟩,Ht⟩;refine ⟨_,rfl,?_⟩;have WV:=Ht.size;have aQe:=K.size;have aAR:=Ap.dj (Ap.new (aA.dU G9) (aA.je hv1));have hv1:=aA.below hv1 Ht;have K:=G_.below K Ht;have T:=Tt T Ht;replace G9:=aA.mono G9 aQe;refine Ez v8<|RL.nil<|ah<|wp_block ?_;obtain ⟨K1,hK1,hm⟩ :∃K,K=nT∧lW d0 K ((asQ d0+d2.length)+2) d1 y6=some r:=⟨_,rfl,hm⟩;refine dG (fun g f w'=>∃(WU:List Bool) (NS:List Int) (awm:Value),f 0=.pointer (some ⟨qg,qh,none⟩)∧f 1=.slice Ap1 d1.length cp1∧aA 4 T_ 1 w' w.heap.size (.slice Ap1 d1.length cp1) WU∧f 6=awm∧aA 2 encI 1 w' ws.heap.size awm NS∧Dj awm (.slice Ap1 d1.length cp1)∧G_ (.slice Ap1 d1.length cp1) (.slice Ap1 d1.length cp1) ws w'∧Below w.heap.size w w'∧lW d0 K1 g WU NS=some r) 0 (fun f w'=>∃(aAQ:List Bool),f 1=.slice Ap1 d1.length cp1∧aA 4 T_ 1 w' w.heap.size (.slice Ap1 d1.length cp1) aAQ∧G_ (.slice Ap1 d1.length cp1) (.slice Ap1 d1.length cp1) ws w'∧Below w.heap.size w w'∧nT aAQ=some r) ((asQ d0+d2.length)+2) ⟨d1,y6,(v8),s0,s1,hv1,rfl,G9,(Ap.dj (Dj.ap aAR)),K,T,hm⟩ ?_ ?_
  ·rintro f WQ ⟨aAQ,BO,aQh,K,T,hm⟩;unfold nT at hm;obtain rfl:=sj hm;exact (dW (aPD rfl ⟨rfl,aQh,K,T⟩))
  rintro g f w17 ⟨WU,NS,awm,dQ,iF,abn,I8,adV,Uk,K,T,hm⟩;rcases g with _|g
  ·simp only [lW] at hm; cases hm
  obtain ⟨eU,d_,hm⟩ :∃z,z=lW d0 K1 g∧zl d0 z K1 WU NS=some r:=⟨_,rfl,hm⟩;unfold zl at hm;refine wp_seq<|wp_seq<|au rfl<|aT I8 ?_;obtain ⟨A18,c19,rfl⟩:=aA.form adV;have aQi:=aA.bound adV;refine yH rfl<|iq (.bool (decide ((NS.length:Int) > 0)))<|RQ.nil<|ah ?_;rcases aB (decide ((NS.length:Int) > 0)) with c20|c20
  ·replace hm:=cF c20 hm;have aKY:=of_decide_eq_false c20;refine iH c20<|wp_exit ?_;exact (bQ (bQ (iW ⟨_,rfl,⟨WU,iF,abn,K,T,(by rw [hK1] at hm; exact hm)⟩⟩)))
  replace hm:=cT c20 hm;have aKY:=of_decide_eq_true c20;refine ig c20<|wp_skip<|ah<|wp_block<|wp_seq<|au rfl<|aT I8<|aT I8<|yH rfl ?_;obtain ⟨s21,abh,hm⟩:=bnd hm;replace abh:=jg abh;refine uZ (.int .i64 s21) rfl rfl (by rw [BN abh.2,abh.1]) ?_;obtain ⟨x22,hx24,hm⟩:=bnd hm;obtain ⟨k23,aKZ,aK1,hx24⟩:=aU hx24;obtain ⟨b27,rfl⟩:=aA.GU adV (by omega);refine RQ.y rfl (Y.indexAddr (m:=k23) (sz:=1) rfl rfl aKZ aK1 (by kernel_rfl))<|gZ (.int .i64 x22) rfl (cu (aA.cell fI adV hx24 (j:=0) rfl))<|aW (.int .i64 x22)<|RQ.nil<|ah<|wp_seq<|au rfl<|aT I8<|aT I8<|yH rfl ?_;obtain ⟨s28,aGx,hm⟩:=bnd hm;replace aGx:=jg aGx;refine uZ (.int .i64 s28) rfl rfl (by rw [BN aGx.2,aGx.1]) ?_;obtain ⟨_,m29,hm⟩:=bnd hm;have aK2:=h_ m29;obtain ⟨bax,aK3⟩ :∃Av,(if c19=0 then (some ⟨b27,0,none⟩) else ((some ⟨b27,0,none⟩):Option Addr).map (·.add (0 * 1)))=Av:=⟨_,rfl⟩;obtain ⟨ea33,aYe,G35⟩:=aA.aPQ (sz:=1) (by exact fun _=>rfl) adV aK2.2 aK3;rw [ea33] at aK3;refine RQ.y rfl (Y.aKy (A:=(some ⟨b27,0,none⟩)) (Av:=(some ⟨b27,0,none⟩)) (l:=(NS.take s28.toNat).length) (sz:=1) rfl rfl (tkI aK2.1 aK2.2) (Nat.le_trans aXA (Nat.le_of_eq (aA.ZE adV).symm)) aYe (by kernel_rfl) aK3)<|aW (.slice (some ⟨b27,0,none⟩) ((NS.take s28.toNat).length) c19)<|RQ.nil<|ah<|wp_seq<|au rfl<|aT iF<|dF (.int .i64 x22) ?_;obtain ⟨x37,hx39,hm⟩:=bnd hm;obtain ⟨k38,aAS,aQj,hx39⟩:=aU hx39;obtain ⟨b42,rfl⟩:=aA.GU abn (by have:=aA.ZE abn; omega);refine RQ.y rfl (Y.indexAddr (m:=k38) (sz:=1) rfl rfl aAS (by have:=aA.ZE abn; omega) (by kernel_rfl))<|gZ (.bool x37) rfl (cu (aA.cell fB abn hx39 (j:=0) rfl))<|RQ.y rfl (Y.not (b':=(!x37)) rfl rfl)<|RQ.nil<|ah ?_;rcases aB x37 with c43|c43
  ·replace hm:=cF c43 hm;refine dX rfl (gQ rfl c43 rfl)<|wp_seq<|bF rfl<|kE iF<|aLm (.int .i64 x22) ?_;obtain ⟨x44,axC,hm⟩:=bnd hm;obtain ⟨k45,aAG,aGu,axC⟩:=aU axC;refine RL.y rfl (Y.indexAddr (m:=k45) (sz:=1) rfl rfl aAG (by have:=aA.ZE abn; omega) (by kernel_rfl)) ?_;refine RL.ano (k:=k45) (a:=true) fB rfl rfl rfl abn aGu rfl (by kernel_rfl) (fun w49 G50 as4=>?_);have aQk:=as4.size;have G35:=aA.only G35 as4 (fun e=>Uk _ e rfl);have K:=G_.aPM K as4 rfl;have T:=T.trans (as4.below (by intro b hb; simp at hb; subst hb; exact (id (aA.jB abn _ rfl))));have G50:aA 4 T_ 1 w49 w.heap.size (.slice (some ⟨b42,0,none⟩) d1.length cp1) (kX WU x22 true):=by rw [yc aAG]; exact G50
   have aYf:(kX WU x22 true)[k45]? = some true:=Ub aAG aGu;have bay:=lt_of_some aYf;refine RL.nil<|ah<|bF rfl<|aLm (.slice (some ⟨b27,0,none⟩) ((NS.take s28.toNat).length) c19)<|kE dQ<|aLn rfl<|rC 6 rfl<|I7 (.slice A5 d0.heap.length c5) rfl (cu (cellT T (eu 6 _ rfl)))<|aLm (.int .i64 x22) ?_;obtain ⟨x54,as5,hm⟩:=bnd hm;obtain ⟨k55,aK4,aK5,as5⟩:=aU as5;obtain ⟨b61,o62,rfl,aQo⟩:=h5.addr (by omega);obtain ⟨aYg,anB,aK6⟩:=h5.el as5;have aYh:=anB;obtain ⟨A63,n63,c63,A64,n64,c64,A65,n65,c65,rfl,⟨h63,r63⟩,⟨h64,r64⟩,⟨h65,r65⟩⟩:=anB;obtain ⟨rfl,q63⟩:=bI h63 r63;obtain ⟨rfl,q64⟩:=bI h64 r64;obtain ⟨rfl,q65⟩:=bI h65 r65;refine RL.y rfl (Y.indexAddr (m:=k55) (sz:=6) rfl rfl aK4 aK5 (by kernel_rfl))<|rC 1 rfl<|rC 4 rfl<|I7 (.slice A65 x54.closure.env.length c65) rfl (cu (cellT T (aK6 5 _ rfl))) ?_;obtain ⟨_,m66,hm⟩:=bnd hm;have aK7:=h_ m66;refine RL.append fI Gs rfl rfl rfl G35 (eY aG h65 r65 T) K.size aK7 (fun v68 w69 G70 aQq aAT aQr=>?_);have aI7:=aAT.size;have aAU:=Dj.app Uk aQr (aA.hi G50);have G50:=aA.Aa G50 aQq (Dj.symm Uk);have K:=G_.aGp K aAT;have T:=T.trans (Below.weak LW aAT);refine Ez v68<|RL.nil ?_;exact (eF (ah ⟨g,_,Nat.lt_succ_self _,rfl,⟨(kX WU x22 true),((NS.take s28.toNat) ++ x54.closure.env),(v68),dQ,iF,G50,rfl,G70,(Ap.dj (Dj.ap aAU)),K,T,(by rw [← d_]; exact hm)⟩⟩))
  replace hm:=cT c43 hm;refine gU rfl (gQ rfl c43 rfl)<|wp_skip ?_;exact (eF (ah ⟨g,_,Nat.lt_succ_self _,rfl,⟨WU,(NS.take s28.toNat),(.slice (some ⟨b27,0,none⟩) ((NS.take s28.toNat).length) c19),dQ,iF,abn,rfl,G35,(Ap.dj (Dj.ap Uk)),K,T,(by rw [← d_]; exact hm)⟩⟩))
noncomputable def jZ (aAV:List Bool):Option (List Bool):=
  some aAV
noncomputable def uG (d0:aN) (eU:List Bool→Int→Option (List Bool)) (K1:List Bool→Option (List Bool)) (Wl:List Bool) (i22:Int):Option (List Bool):=
  (bif (decide (i22 < (d0.stack.length:Int))) then ((fC d0.stack i22).bind fun x25=>(bif (x25.kind==1) then ((lu d0 Wl ([x25.value])).bind fun y74=>((lu d0 y74 x25.closure.env).bind fun LJ=>(eU LJ (i22+1)))) else (bif (x25.kind==2) then ((lu d0 Wl ([x25.value])).bind fun y54=>((lu d0 y54 x25.closure.env).bind fun y62=>(eU y62 (i22+1)))) else ((lu d0 Wl x25.closure.env).bind fun y40=>(eU y40 (i22+1)))))) else (K1 Wl))
noncomputable def jl (d0:aN) (K1:List Bool→Option (List Bool)):Nat→List Bool→Int→Option (List Bool)
  |0,_,_=>none
  |g+1,Wl,i22=>uG d0 (jl d0 K1 g) K1 Wl i22
noncomputable def tN (d0:aN):Option (List Bool):=
  ((yB (d0.heap.length≤4294967296)).bind fun _=>((lu d0 (List.replicate d0.heap.length false) d0.control.env).bind fun y13=>(jl d0 jZ (d0.stack.length+1) y13 0)))
set_option maxHeartbeats 2000000 in
theorem adW (d0:aN) (r:List Bool) (hm:tN d0=some r) (v0:Value) (w:World) (hv0:Pt jQ w v0 d0) :
    Calls Tryz.prog 49 #[v0] w fun e w'=>(∃(v0:Value),e=.returned (v0)∧aA 4 T_ 1 w' w.heap.size v0 r)∧Below w.heap.size w w':=by
  obtain ⟨qg,qh,lg,rfl,qm,jR,eu⟩:=hv0;have qB:=jR;obtain ⟨A1,n1,c1,A2,n2,c2,A3,n3,c3,A4,n4,c4,A5,n5,c5,rfl,⟨h1,r1⟩,⟨h2,r2⟩,⟨h3,r3⟩,⟨h4,r4⟩,⟨h5,r5⟩⟩:=jR;obtain ⟨rfl,q1⟩:=bI h1 r1;obtain ⟨rfl,q2⟩:=bI h2 r2;obtain ⟨rfl,q3⟩:=bI h3 r3;obtain ⟨rfl,q4⟩:=bI h4 r4;obtain ⟨rfl,q5⟩:=bI h5 r5;have T:=Below.refl w.heap.size w;unfold tN at hm;refine enter 64 Tryz.func49 rfl rfl rfl ?_;intro f hf;have s0:f 0=.pointer (some ⟨qg,qh,none⟩):=hf 0 _ rfl;refine wp_seq<|au rfl<|aW (.slice none 0 0)<|RQ.nil<|ah<|wp_seq<|bF rfl<|kE s0<|aLn rfl<|rC 6 rfl<|I7 (.slice A5 d0.heap.length c5) rfl (cu (cellT T (eu 6 _ rfl)))<|aLz rfl ?_;obtain ⟨_,m6,hm⟩:=bnd hm;have hk7:=h_ m6;refine RL.make (enc:=T_) (z0:=false) (n:=d0.heap.length) apR (by decide) rfl rfl rfl rfl hk7 (fun w8 G9 Au aAB=>?_);replace G9:=aA.mono G9 T.size;have T:=Tt T Au;refine Ez (.slice (some ⟨w.heap.size,0,none⟩) d0.heap.length d0.heap.length)<|RL.nil<|ah<|wp_seq<|bF rfl<|kE s0<|aLm (.slice (some ⟨w.heap.size,0,none⟩) d0.heap.length d0.heap.length)<|kE s0<|aLn rfl<|rC 0 rfl<|rC 4 rfl<|I7 (.slice A3 d0.control.env.length c3) rfl (cu (cellT T (eu 4 _ rfl))) ?_;obtain ⟨y13,e14,hm⟩:=bnd hm;refine RL.call rfl (Vu rfl rfl rfl) (by kernel_rfl) ((vX d0 (List.replicate d0.heap.length false) d0.control.env _ e14 _ _ _ w w8 T (l9 fP qm qB eu (Below.refl _ _)) (eY aG h3 r3 T) G9 ).mono ?_);rintro _ w15 ⟨rfl,G18,K16,Dq⟩;refine ⟨_,rfl,?_⟩;have amo:=K16.size;have T:=Dq;refine RL.nil<|ah<|wp_seq<|wp_seq<|au rfl<|aW (.int .i64 0)<|RQ.nil<|ah<|wp_block ?_;obtain ⟨K1,hK1,hm⟩ :∃K,K=jZ∧jl d0 K (d0.stack.length+1) y13 0=some r:=⟨_,rfl,hm⟩;refine dG (fun g f w'=>∃(Wl:List Bool) (i22:Int) (awn:Value),f 0=.pointer (some ⟨qg,qh,none⟩)∧f 3=awn∧aA 4 T_ 1 w' w.heap.size awn Wl∧f 4=.int .i64 i22∧0≤i22∧Below w.heap.size w w'∧jl d0 K1 g Wl i22=some r) 0 (fun f w'=>∃(aAV:List Bool) (awo:Value),f 3=awo∧aA 4 T_ 1 w' w.heap.size awo aAV∧Below w.heap.size w w'∧jZ aAV=some r) (d0.stack.length+1) ⟨y13,0,(.slice (some ⟨w.heap.size,0,none⟩) d0.heap.length d0.heap.length),s0,rfl,G18,rfl,(by omega),T,hm⟩ ?_ ?_
  ·rintro f w20 ⟨aAV,awo,Bg,aK8,T,hm⟩;unfold jZ at hm;refine dW (ah ?_);refine wp_seq<|au rfl<|aT Bg<|aW awo<|RQ.nil<|ah<|wp_ret ?_;obtain rfl:=sj hm;exact (aV rfl rfl rfl ⟨⟨_,rfl,aK8⟩,T⟩)
  rintro g f w23 ⟨Wl,i22,awn,dQ,jE,EG,Dt,apU,T,hm⟩;rcases g with _|g
  ·simp only [jl] at hm; cases hm
  obtain ⟨eU,d_,hm⟩ :∃z,z=jl d0 K1 g∧uG d0 z K1 Wl i22=some r:=⟨_,rfl,hm⟩;unfold uG at hm;refine wp_seq<|wp_seq<|au rfl<|aT Dt<|aT dQ<|Du rfl<|gy 5 rfl<|gZ (.slice A4 d0.stack.length c4) rfl (cu (cellT T (eu 5 _ rfl)))<|yH rfl<|iq (.bool (decide (i22 < (d0.stack.length:Int))))<|RQ.nil<|ah ?_;rcases aB (decide (i22 < (d0.stack.length:Int))) with c24|c24
  ·replace hm:=cF c24 hm;have pc24:=of_decide_eq_false c24;refine iH c24<|wp_exit ?_;exact (bQ (bQ (iW ⟨_,rfl,⟨Wl,(awn),jE,EG,T,(by rw [hK1] at hm; exact hm)⟩⟩)))
  replace hm:=cT c24 hm;have pc24:=of_decide_eq_true c24;refine ig c24<|wp_skip<|ah<|wp_seq<|wp_block<|wp_seq<|au rfl<|aT dQ<|Du rfl<|gy 5 rfl<|gZ (.slice A4 d0.stack.length c4) rfl (cu (cellT T (eu 5 _ rfl)))<|aT Dt ?_;obtain ⟨x25,hx28,hm⟩:=bnd hm;obtain ⟨k26,aKN,aKO,hx28⟩:=aU hx28;obtain ⟨b32,o33,rfl,a9j⟩:=h4.addr (by omega);obtain ⟨aXZ,ag_,hc31⟩:=h4.el hx28;have aAy:=ag_;obtain ⟨A34,n34,c34,A35,n35,c35,A36,n36,c36,A37,n37,c37,rfl,⟨h34,r34⟩,⟨h35,r35⟩,⟨h36,r36⟩,⟨h37,r37⟩⟩:=ag_;obtain ⟨rfl,q34⟩:=bI h34 r34;obtain ⟨rfl,q35⟩:=bI h35 r35;obtain ⟨rfl,q36⟩:=bI h36 r36;obtain ⟨rfl,q37⟩:=bI h37 r37;refine RQ.y rfl (Y.indexAddr (m:=k26) (sz:=8) rfl rfl aKN aKO (by kernel_rfl))<|aW (.pointer (some ⟨b32,o33+k26 * 8,none⟩))<|RQ.nil<|ah<|wp_seq<|wp_seq<|au rfl<|dF (.pointer (some ⟨b32,o33+k26 * 8,none⟩))<|Du rfl<|gy 0 rfl<|gZ (.int .i64 x25.kind) rfl (cu (cellT T (hc31 0 _ rfl)))<|iq (.bool (x25.kind==1))<|dF (.bool (x25.kind==1)) ?_;rcases aB (x25.kind==1) with GK|GK
  ·replace hm:=cF GK hm;refine RQ.y (bT 40 GK) (Y.move (v:=.pointer (some ⟨b32,o33+k26 * 8,none⟩)) rfl)<|RQ.y (bT 40 GK) (Y.nilCheck rfl)<|RQ.y (bT 40 GK) (Y.fieldAddr (off:=0) rfl (by kernel_rfl))<|RQ.y (bT 40 GK) (Y.load (v:=.int .i64 x25.kind) rfl (by kernel_rfl) (cu (cellT T (hc31 0 _ rfl))))<|RQ.y (bT 40 GK) (Y.dS (v:=.bool (x25.kind==2)) rfl rfl rfl)<|dN false (.bool (x25.kind==2)) (vb rfl GK)<|RQ.nil<|ah ?_;rcases aB (x25.kind==2) with Vy|Vy
   ·replace hm:=cF Vy hm;refine iH Vy<|wp_skip<|ah<|bF rfl<|kE dQ<|kE jE<|aLm (.pointer (some ⟨b32,o33+k26 * 8,none⟩))<|aLn rfl<|rC 3 rfl<|rC 4 rfl<|I7 (.slice A37 x25.closure.env.length c37) rfl (cu (cellT T (hc31 7 _ rfl))) ?_;obtain ⟨y40,e41,hm⟩:=bnd hm;obtain ⟨A42,c43,rfl⟩:=aA.form EG;have a9k:=aA.bound EG;refine RL.call rfl (Vu rfl rfl rfl) (by kernel_rfl) ((vX d0 Wl x25.closure.env _ e41 _ _ _ w w23 T (l9 fP qm qB eu (Below.refl _ _)) (eY aG h37 r37 T) EG ).mono ?_);rintro _ w44 ⟨rfl,G47,K45,aGy⟩;refine ⟨_,rfl,?_⟩;have aI3:=K45.size;have T:=aGy;refine RL.nil ?_;refine eF (ah ?_);refine au rfl<|aT Dt<|RQ.y rfl (Y.dS rfl rfl (bn (m:=i22) (by omega)))<|aW (.int .i64 (i22+1))<|RQ.nil ?_;exact (ah ⟨g,_,Nat.lt_succ_self _,rfl,⟨y40,(i22+1),(.slice A42 Wl.length c43),dQ,jE,G47,rfl,(by omega),T,(by rw [← d_]; exact hm)⟩⟩)
   replace hm:=cT Vy hm;refine ig Vy<|bF rfl<|kE dQ<|kE jE<|aLm (.pointer (some ⟨b32,o33+k26 * 8,none⟩))<|aLn rfl<|rC 1 rfl<|I7 (.int .i64 x25.value) rfl (cu (cellT T (hc31 1 _ rfl))) ?_;refine RL.yD (e:=2) (cells:=#[.int .i64 x25.value]) rfl (pm1 rfl) (by kernel_rfl) (fun w48 B49 aAW aQs=>?_);have aYi:w.heap.size≤w23.heap.size:=T.size;have ahi:=Dj.new (v:=.slice (some ⟨w23.heap.size,0,none⟩) 1 1) afi (aA.hi EG);have EG:=aA.below EG aAW;have T:=Tt T aAW;have G52:=aA.lit (enc:=encI) (sz:=1) (xs:=[x25.value]) B49 aYi rfl rfl rfl rfl;obtain ⟨y54,e55,hm⟩:=bnd hm;obtain ⟨A56,c57,rfl⟩:=aA.form EG;have aQt:=aA.bound EG;refine RL.call rfl (Vu rfl rfl rfl) (by kernel_rfl) ((vX d0 Wl ([x25.value]) _ e55 _ _ _ w w48 T (l9 fP qm qB eu (Below.refl _ _)) (aA.arg fI G52) EG ).mono ?_);rintro _ w58 ⟨rfl,G61,K59,as1⟩;refine ⟨_,rfl,?_⟩;have awl:=K59.size;have G52:=aA.aI0 G52 K59 ahi ahi;have T:=as1;refine RL.nil<|ah<|bF rfl<|kE dQ<|kE jE<|aLm (.pointer (some ⟨b32,o33+k26 * 8,none⟩))<|aLn rfl<|rC 3 rfl<|rC 4 rfl<|I7 (.slice A37 x25.closure.env.length c37) rfl (cu (cellT T (hc31 7 _ rfl))) ?_;obtain ⟨y62,e63,hm⟩:=bnd hm;refine RL.call rfl (Vu rfl rfl rfl) (by kernel_rfl) ((vX d0 y54 x25.closure.env _ e63 _ _ _ w w58 T (l9 fP qm qB eu (Below.refl _ _)) (eY aG h37 r37 T) G61 ).mono ?_);rintro _ w64 ⟨rfl,G67,K65,aGr⟩;refine ⟨_,rfl,?_⟩;have aAI:=K65.size;have T:=aGr;refine RL.nil ?_;refine eF (ah ?_);refine au rfl<|aT Dt<|RQ.y rfl (Y.dS rfl rfl (bn (m:=i22) (by omega)))<|aW (.int .i64 (i22+1))<|RQ.nil ?_;exact (ah ⟨g,_,Nat.lt_succ_self _,rfl,⟨y62,(i22+1),(.slice A56 Wl.length c57),dQ,jE,G67,rfl,(by omega),T,(by rw [← d_]; exact hm)⟩⟩)
  replace hm:=cT GK hm;iterate 5 refine RQ.skip (oL 40 GK) ?_
  refine dN true (.bool true) (vb rfl GK)<|RQ.nil<|ah<|dX rfl rfl<|bF rfl<|kE dQ<|kE jE<|aLm (.pointer (some ⟨b32,o33+k26 * 8,none⟩))<|aLn rfl<|rC 1 rfl<|I7 (.int .i64 x25.value) rfl (cu (cellT T (hc31 1 _ rfl))) ?_;refine RL.yD (e:=2) (cells:=#[.int .i64 x25.value]) rfl (pm1 rfl) (by kernel_rfl) (fun w68 B69 aGz aI6=>?_);have aYj:w.heap.size≤w23.heap.size:=T.size;have ahj:=Dj.new (v:=.slice (some ⟨w23.heap.size,0,none⟩) 1 1) afi (aA.hi EG);have EG:=aA.below EG aGz;have T:=Tt T aGz;have G72:=aA.lit (enc:=encI) (sz:=1) (xs:=[x25.value]) B69 aYj rfl rfl rfl rfl;obtain ⟨y74,e75,hm⟩:=bnd hm;obtain ⟨A76,c77,rfl⟩:=aA.form EG;have aQu:=aA.bound EG;refine RL.call rfl (Vu rfl rfl rfl) (by kernel_rfl) ((vX d0 Wl ([x25.value]) _ e75 _ _ _ w w68 T (l9 fP qm qB eu (Below.refl _ _)) (aA.arg fI G72) EG ).mono ?_);rintro _ w78 ⟨rfl,G81,K79,aK9⟩;refine ⟨_,rfl,?_⟩;have aAX:=K79.size;have G72:=aA.aI0 G72 K79 ahj ahj;have T:=aK9;refine RL.nil<|ah<|bF rfl<|kE dQ<|kE jE<|aLm (.pointer (some ⟨b32,o33+k26 * 8,none⟩))<|aLn rfl<|rC 3 rfl<|rC 4 rfl<|I7 (.slice A37 x25.closure.env.length c37) rfl (cu (cellT T (hc31 7 _ rfl))) ?_;obtain ⟨LJ,e83,hm⟩:=bnd hm;refine RL.call rfl (Vu rfl rfl rfl) (by kernel_rfl) ((vX d0 y74 x25.closure.env _ e83 _ _ _ w w78 T (l9 fP qm qB eu (Below.refl _ _)) (eY aG h37 r37 T) G81 ).mono ?_);rintro _ w84 ⟨rfl,G87,K85,aK_⟩;refine ⟨_,rfl,?_⟩;have a9l:=K85.size;have T:=aK_;refine RL.nil ?_;refine eF (ah ?_);refine au rfl<|aT Dt<|RQ.y rfl (Y.dS rfl rfl (bn (m:=i22) (by omega)))<|aW (.int .i64 (i22+1))<|RQ.nil ?_;exact (ah ⟨g,_,Nat.lt_succ_self _,rfl,⟨LJ,(i22+1),(.slice A76 Wl.length c77),dQ,jE,G87,rfl,(by omega),T,(by rw [← d_]; exact hm)⟩⟩)
end
section
open Go.RowKit
/-- A cell that holds a pointer to what R reads. -/
def aLc {α:Type} (R:Rd α):Rd α:=fun w B cs x=>∃b o cs',cs=[.pointer (some ⟨b,o,none⟩)]∧b < B∧R w B cs' x∧∀j v,cs'[j]? = some v→w.cell? ⟨b,o+j,none⟩=some v
theorem aGA {α:Type} {R:Rd α} {w:World} {v:Value} {x:α} (h:Pt R w v x):aLc R w w.heap.size [v] x:=by
 obtain ⟨b,o,cs,rfl,hb,hR,hc⟩:=h
 exact ⟨b,o,cs,rfl,hb,hR,hc⟩
section
variable {C : World → Prop} {b o : Nat} {v0 v1 v2 v3 v4 v5 v6 v7 : Value}
theorem QB (h0:l7 C ⟨b,o+0,none⟩ v0) (h1:l7 C ⟨b,o+1,none⟩ v1) (h2:l7 C ⟨b,o+2,none⟩ v2) (h3:l7 C ⟨b,o+3,none⟩ v3) (h4:l7 C ⟨b,o+4,none⟩ v4) (h5:l7 C ⟨b,o+5,none⟩ v5):MK C b o [v0,v1,v2,v3,v4,v5]:=fun w hw j v hj=>by
 rcases j with _|_|_|_|_|_|j <;> simp at hj <;> subst hj
 ·exact h0 w hw
 ·exact h1 w hw
 ·exact h2 w hw
 ·exact h3 w hw
 ·exact h4 w hw
 ·exact h5 w hw
theorem Ul (h0:l7 C ⟨b,o+0,none⟩ v0) (h1:l7 C ⟨b,o+1,none⟩ v1) (h2:l7 C ⟨b,o+2,none⟩ v2) (h3:l7 C ⟨b,o+3,none⟩ v3) (h4:l7 C ⟨b,o+4,none⟩ v4) (h5:l7 C ⟨b,o+5,none⟩ v5) (h6:l7 C ⟨b,o+6,none⟩ v6):MK C b o [v0,v1,v2,v3,v4,v5,v6]:=fun w hw j v hj=>by
 rcases j with _|_|_|_|_|_|_|j <;> simp at hj <;> subst hj
 ·exact h0 w hw
 ·exact h1 w hw
 ·exact h2 w hw
 ·exact h3 w hw
 ·exact h4 w hw
 ·exact h5 w hw
 ·exact h6 w hw
theorem QC (h0:l7 C ⟨b,o+0,none⟩ v0) (h1:l7 C ⟨b,o+1,none⟩ v1) (h2:l7 C ⟨b,o+2,none⟩ v2) (h3:l7 C ⟨b,o+3,none⟩ v3) (h4:l7 C ⟨b,o+4,none⟩ v4) (h5:l7 C ⟨b,o+5,none⟩ v5) (h6:l7 C ⟨b,o+6,none⟩ v6) (h7:l7 C ⟨b,o+7,none⟩ v7):MK C b o [v0,v1,v2,v3,v4,v5,v6,v7]:=fun w hw j v hj=>by
 rcases j with _|_|_|_|_|_|_|_|j <;> simp at hj <;> subst hj
 ·exact h0 w hw
 ·exact h1 w hw
 ·exact h2 w hw
 ·exact h3 w hw
 ·exact h4 w hw
 ·exact h5 w hw
 ·exact h6 w hw
 ·exact h7 w hw
end
theorem NT:afV Tryz.prog 41 77 (.agg #[.int .i64 0,.int .i64 0,.slice none 0 0,.int .i64 0,.int .i64 0,.slice none 0 0,.slice none 0 0,.slice none 0 0]) 8 128:=⟨by kernel_rfl,by kernel_rfl,rfl,by decide⟩
theorem Az:afV Tryz.prog 42 73 (.agg #[.bool false,.int .i64 0,.int .i64 0,.slice none 0 0,.slice none 0 0,.slice none 0 0]) 6 96:=⟨by kernel_rfl,by kernel_rfl,rfl,by decide⟩
end
end Go.Proofs.YtkfmlehhbanopaaGreat
