/- Lemmas of the proof of ReadNet, part 7. No condition. -/
import Derived.Test.YtkfmlehhbanopaaGreatDoorZReadNet6
namespace Go.Proofs.YtkfmlehhbanopaaGreatDoor
set_option linter.unusedVariables false
set_option linter.unusedSimpArgs false
section
open Go.RowKit Go.Sort
/-- The port that a text spells. -/
noncomputable def rdP (w:ByteArray):Option DPort:=match splitS 46 w with
  |[a,b]=>match rdD a,rdD b with
    |some x,some y=>some ⟨x,y⟩
    |_,_=>none
  |_=>none
/-- The agent that a text spells. -/
noncomputable def rdA (s:ByteArray):Option DAgent:=match splitS 32 s with
  |[]=>none
  |w0 :: ws=>match (if (cutB1 (cutB1 w0 (ByteArray.mk #[61])).1 (ByteArray.mk #[47])).2.2=true then rdD (cutB1 (cutB1 w0 (ByteArray.mk #[61])).1 (ByteArray.mk #[47])).2.1 else some 0) with
    |none=>none
    |some l=>match (if (cutB1 w0 (ByteArray.mk #[61])).2.2=true then rdC (kindNamed (cutB1 (cutB1 w0 (ByteArray.mk #[61])).1 (ByteArray.mk #[47])).1) 0 (cutB1 w0 (ByteArray.mk #[61])).2.1 else some (0,[])) with
      |none=>none
      |some p=>(mapO rdP ws).map fun ps=>⟨kindNamed (cutB1 (cutB1 w0 (ByteArray.mk #[61])).1 (ByteArray.mk #[47])).1,l,p.1,p.2,ps⟩
def AgrA (m:Option (DAgent × Bool)) (r:Option DAgent):Prop:=match r with
  |some a=>m=some (a,true)
  |none=>∃z,m=some (z,false)
def AgrL (m:Option (DAgent × Bool)) (z:DAgent) (r:Option (List DPort)):Prop:=match r with
  |some ps=>m=some (⟨z.kind,z.level,z.value,z.data,z.ports ++ ps⟩,true)
  |none=>∃z',m=some (z',false)
theorem AgrL.fin {m:Option (DAgent × Bool)} {z:DAgent} {r:Option (List DPort)} (hz:z.ports=[]) (h:AgrL m z r):AgrA m (r.map fun ps=>⟨z.kind,z.level,z.value,z.data,ps⟩):=by
  cases r with
  |none=>exact h
  |some ps=>
    unfold AgrL at h
    simp only [hz,List.nil_append] at h
    exact h
theorem p_sPort (w:ByteArray) (hw:w.size≤1048576):match rdP w with|some p=>m_spec_l11ReadPort w=some (p,true)|none=>∃p,m_spec_l11ReadPort w=some (p,false):=by
  have hsp:m_spec_l11Split w 46=some (splitS 46 w):=p_sSplit 46 w hw
  unfold m_spec_l11ReadPort
  rw [hsp,Option.bind_some]
  match h:splitS 46 w with
  |[]=>
    have hp:rdP w=none:=by unfold rdP; rw [h]
    rw [hp]; exact ⟨_,rfl⟩
  |[a]=>
    have hp:rdP w=none:=by unfold rdP; rw [h]
    rw [hp]; exact ⟨_,rfl⟩
  |a :: b :: c :: r=>
    have hp:rdP w=none:=by unfold rdP; rw [h]
    have hn:(((a :: b :: c :: r).length:Int) != 2)=true:=by simp; omega
    rw [hp,hn,cond_true]
    exact ⟨_,rfl⟩
  |[a,b]=>
    rw [show (([a,b].length:Int) != 2)=false from rfl,cond_false,show getI [a,b] 0=some a from rfl,Option.bind_some,p_sReadD,Option.bind_some,show getI [a,b] 1=some b from rfl,Option.bind_some,p_sReadD,Option.bind_some]
    cases ha:rdD a with
    |none=>
      have hp:rdP w=none:=by unfold rdP; rw [h]; simp only [ha]
      rw [hp]; exact ⟨_,rfl⟩
    |some x=>
      cases hb:rdD b with
      |none=>
        have hp:rdP w=none:=by unfold rdP; rw [h]; simp only [ha,hb]
        rw [hp]; exact ⟨_,rfl⟩
      |some y=>
        have hp:rdP w=some ⟨x,y⟩:=by unfold rdP; rw [h]; simp only [ha,hb]
        rw [hp]; rfl
theorem sPorts2 (y:List ByteArray) (hy:y.length≤1048577) (hs :∀w∈y,w.size≤1048576) (z0:DAgent) :∀(d i g:Nat) (z:DAgent),i+d=y.length→d < g→z.ports.length≤i→AgrL (m_spec_l11ReadAgent_L2 y m_spec_l11ReadAgent_A2 g (i:Int) z0 z) z (mapO rdP (y.drop i)):=by
  intro d
  induction d with
  |zero=>
    intro i g z hi hg ha
    obtain ⟨g,rfl⟩ :∃g',g=g'+1:=⟨g - 1,by omega⟩
    obtain rfl:i=y.length:=by omega
    rw [m_spec_l11ReadAgent_L2,m_spec_l11ReadAgent_B2,dge,cond_false,m_spec_l11ReadAgent_A2,List.drop_eq_nil_of_le (Nat.le_refl _)]
    simp [mapO,AgrL]
  |succ d ih=>
    intro i g z hi hg ha
    obtain ⟨g,rfl⟩ :∃g',g=g'+1:=⟨g - 1,by omega⟩
    have hlt:i < y.length:=by omega
    have hp:=p_sPort y[i] (hs _ (List.getElem_mem hlt))
    rw [m_spec_l11ReadAgent_L2,m_spec_l11ReadAgent_B2,dlt hlt,cond_true,getI_lt hlt,Option.bind_some,List.drop_eq_getElem_cons hlt,mapO]
    cases hr:rdP y[i] with
    |none=>
      rw [hr] at hp
      obtain ⟨p,hp⟩:=hp
      rw [hp]
      exact ⟨_,rfl⟩
    |some p=>
      rw [hr] at hp
      rw [hp,Option.bind_some]
      simp only [cond_true]
      rw [mustP_ok (by simp; omega),Option.bind_some]
      have:=ih (i+1) g ⟨z.kind,z.level,z.value,z.data,z.ports ++ [p]⟩ (by omega) (by omega) (by simp; omega)
      have e:((i+1:Nat):Int)=(i:Int)+1:=rfl
      rw [← e]
      cases hm:mapO rdP (y.drop (i+1)) with
      |none=>rw [hm] at this; exact this
      |some ds=>
        rw [hm] at this
        unfold AgrL at this ⊢
        simp only [Option.map_some]
        rw [this]
        simp
theorem sPorts3 (y:List ByteArray) (hy:y.length≤1048577) (hs :∀w∈y,w.size≤1048576) (z0:DAgent) :∀(d i g:Nat) (z:DAgent),i+d=y.length→d < g→z.ports.length≤i→AgrL (m_spec_l11ReadAgent_L3 y m_spec_l11ReadAgent_A3 g (i:Int) z0 z) z (mapO rdP (y.drop i)):=by
  intro d
  induction d with
  |zero=>
    intro i g z hi hg ha
    obtain ⟨g,rfl⟩ :∃g',g=g'+1:=⟨g - 1,by omega⟩
    obtain rfl:i=y.length:=by omega
    rw [m_spec_l11ReadAgent_L3,m_spec_l11ReadAgent_B3,dge,cond_false,m_spec_l11ReadAgent_A3,List.drop_eq_nil_of_le (Nat.le_refl _)]
    simp [mapO,AgrL]
  |succ d ih=>
    intro i g z hi hg ha
    obtain ⟨g,rfl⟩ :∃g',g=g'+1:=⟨g - 1,by omega⟩
    have hlt:i < y.length:=by omega
    have hp:=p_sPort y[i] (hs _ (List.getElem_mem hlt))
    rw [m_spec_l11ReadAgent_L3,m_spec_l11ReadAgent_B3,dlt hlt,cond_true,getI_lt hlt,Option.bind_some,List.drop_eq_getElem_cons hlt,mapO]
    cases hr:rdP y[i] with
    |none=>
      rw [hr] at hp
      obtain ⟨p,hp⟩:=hp
      rw [hp]
      exact ⟨_,rfl⟩
    |some p=>
      rw [hr] at hp
      rw [hp,Option.bind_some]
      simp only [cond_true]
      rw [mustP_ok (by simp; omega),Option.bind_some]
      have:=ih (i+1) g ⟨z.kind,z.level,z.value,z.data,z.ports ++ [p]⟩ (by omega) (by omega) (by simp; omega)
      have e:((i+1:Nat):Int)=(i:Int)+1:=rfl
      rw [← e]
      cases hm:mapO rdP (y.drop (i+1)) with
      |none=>rw [hm] at this; exact this
      |some ds=>
        rw [hm] at this
        unfold AgrL at this ⊢
        simp only [Option.map_some]
        rw [this]
        simp
theorem sPorts4 (y:List ByteArray) (hy:y.length≤1048577) (hs :∀w∈y,w.size≤1048576) (z0:DAgent) :∀(d i g:Nat) (z:DAgent),i+d=y.length→d < g→z.ports.length≤i→AgrL (m_spec_l11ReadAgent_L4 y m_spec_l11ReadAgent_A4 g (i:Int) z0 z) z (mapO rdP (y.drop i)):=by
  intro d
  induction d with
  |zero=>
    intro i g z hi hg ha
    obtain ⟨g,rfl⟩ :∃g',g=g'+1:=⟨g - 1,by omega⟩
    obtain rfl:i=y.length:=by omega
    rw [m_spec_l11ReadAgent_L4,m_spec_l11ReadAgent_B4,dge,cond_false,m_spec_l11ReadAgent_A4,List.drop_eq_nil_of_le (Nat.le_refl _)]
    simp [mapO,AgrL]
  |succ d ih=>
    intro i g z hi hg ha
    obtain ⟨g,rfl⟩ :∃g',g=g'+1:=⟨g - 1,by omega⟩
    have hlt:i < y.length:=by omega
    have hp:=p_sPort y[i] (hs _ (List.getElem_mem hlt))
    rw [m_spec_l11ReadAgent_L4,m_spec_l11ReadAgent_B4,dlt hlt,cond_true,getI_lt hlt,Option.bind_some,List.drop_eq_getElem_cons hlt,mapO]
    cases hr:rdP y[i] with
    |none=>
      rw [hr] at hp
      obtain ⟨p,hp⟩:=hp
      rw [hp]
      exact ⟨_,rfl⟩
    |some p=>
      rw [hr] at hp
      rw [hp,Option.bind_some]
      simp only [cond_true]
      rw [mustP_ok (by simp; omega),Option.bind_some]
      have:=ih (i+1) g ⟨z.kind,z.level,z.value,z.data,z.ports ++ [p]⟩ (by omega) (by omega) (by simp; omega)
      have e:((i+1:Nat):Int)=(i:Int)+1:=rfl
      rw [← e]
      cases hm:mapO rdP (y.drop (i+1)) with
      |none=>rw [hm] at this; exact this
      |some ds=>
        rw [hm] at this
        unfold AgrL at this ⊢
        simp only [Option.map_some]
        rw [this]
        simp
theorem sPorts5 (y:List ByteArray) (hy:y.length≤1048577) (hs :∀w∈y,w.size≤1048576) (z0:DAgent) :∀(d i g:Nat) (z:DAgent),i+d=y.length→d < g→z.ports.length≤i→AgrL (m_spec_l11ReadAgent_L5 y m_spec_l11ReadAgent_A5 g (i:Int) z0 z) z (mapO rdP (y.drop i)):=by
  intro d
  induction d with
  |zero=>
    intro i g z hi hg ha
    obtain ⟨g,rfl⟩ :∃g',g=g'+1:=⟨g - 1,by omega⟩
    obtain rfl:i=y.length:=by omega
    rw [m_spec_l11ReadAgent_L5,m_spec_l11ReadAgent_B5,dge,cond_false,m_spec_l11ReadAgent_A5,List.drop_eq_nil_of_le (Nat.le_refl _)]
    simp [mapO,AgrL]
  |succ d ih=>
    intro i g z hi hg ha
    obtain ⟨g,rfl⟩ :∃g',g=g'+1:=⟨g - 1,by omega⟩
    have hlt:i < y.length:=by omega
    have hp:=p_sPort y[i] (hs _ (List.getElem_mem hlt))
    rw [m_spec_l11ReadAgent_L5,m_spec_l11ReadAgent_B5,dlt hlt,cond_true,getI_lt hlt,Option.bind_some,List.drop_eq_getElem_cons hlt,mapO]
    cases hr:rdP y[i] with
    |none=>
      rw [hr] at hp
      obtain ⟨p,hp⟩:=hp
      rw [hp]
      exact ⟨_,rfl⟩
    |some p=>
      rw [hr] at hp
      rw [hp,Option.bind_some]
      simp only [cond_true]
      rw [mustP_ok (by simp; omega),Option.bind_some]
      have:=ih (i+1) g ⟨z.kind,z.level,z.value,z.data,z.ports ++ [p]⟩ (by omega) (by omega) (by simp; omega)
      have e:((i+1:Nat):Int)=(i:Int)+1:=rfl
      rw [← e]
      cases hm:mapO rdP (y.drop (i+1)) with
      |none=>rw [hm] at this; exact this
      |some ds=>
        rw [hm] at this
        unfold AgrL at this ⊢
        simp only [Option.map_some]
        rw [this]
        simp
/-- The parts around the first sign of equality. -/
def sidesOf (w:ByteArray):List ByteArray:=if (cutB1 w (ByteArray.mk #[61])).2.2=true then [(cutB1 w (ByteArray.mk #[61])).1,(cutB1 w (ByteArray.mk #[61])).2.1] else [w]
theorem sHead_end (y:List ByteArray) (w a b:ByteArray) (hy:y[0]? = some w) (K:List ByteArray→Option (DAgent × Bool)) (g:Nat) (i:Int):m_spec_l11ReadAgent_L1 y K (g+1) [a,b] i=K [a,b]:=by
  have h0:getI y 0=some w:=getI_ok (i:=0) hy
  rw [m_spec_l11ReadAgent_L1,m_spec_l11ReadAgent_B1,h0,Option.bind_some,show (([a,b].length:Int)==1)=false from rfl,cond_false]
  cases decide (i < (w.size:Int)) <;> rfl
theorem sHead (y:List ByteArray) (w:ByteArray) (hw:w.size≤1048576) (hy:y[0]? = some w) (K:List ByteArray→Option (DAgent × Bool)) :∀(d i g:Nat),i+d=w.size→d+1 < g→
    (Lib.index (w.data.toList.drop i) [61] = -1→m_spec_l11ReadAgent_L1 y K g [w] (i:Int)=K [w])∧
    (∀j:Nat,Lib.index (w.data.toList.drop i) [61] = j→j < (w.data.toList.drop i).length→m_spec_l11ReadAgent_L1 y K g [w] (i:Int)=K [mkB (w.data.toList.take (i+j)),mkB (w.data.toList.drop (i+j+1))]):=by
  have h0:getI y 0=some w:=getI_ok (i:=0) hy
  intro d
  induction d with
  |zero=>
    intro i g hi hg
    obtain ⟨g,rfl⟩ :∃g',g=g'+1:=⟨g - 1,by omega⟩
    obtain rfl:i=w.size:=by omega
    have hd:w.data.toList.drop w.size=[]:=List.drop_eq_nil_of_le (Nat.le_refl _)
    refine ⟨fun _=>?_,fun j _ hj=>?_⟩
    · rw [m_spec_l11ReadAgent_L1,m_spec_l11ReadAgent_B1,h0,Option.bind_some,dge,cond_false]
    · rw [hd] at hj; simp at hj
  |succ d ih=>
    intro i g hi hg
    obtain ⟨g,rfl⟩ :∃g',g=g'+1:=⟨g - 1,by omega⟩
    have hlt:i < w.data.toList.length:=by rw [← ba_size]; omega
    have hx:=List.getElem?_eq_getElem hlt
    generalize hxc:w.data.toList[i] = x at hx
    have hdr:w.data.toList.drop i=x :: w.data.toList.drop (i+1):=by rw [List.drop_eq_getElem_cons hlt,hxc]
    have hck:ck ((i:Int)+1)=some (((i+1:Nat)):Int):=by rw [ck_ok (by omega)]; rfl
    have h61:(((x.toNat:Nat):Int)==61)=decide (x=61):=u8_inj (b:=61)
    have ih:=ih (i+1) g (by omega) (by omega)
    by_cases hc:x=61
    · have hidx:Lib.index (w.data.toList.drop i) [61] = ((0:Nat):Int):=by rw [hdr,hc]; exact index_head _ _
      refine ⟨fun h=>by rw [hidx] at h; omega,fun j hj _=>?_⟩
      obtain rfl:j=0:=by rw [hidx] at hj; omega
      obtain ⟨g,rfl⟩ :∃g',g=g'+1:=⟨g - 1,by omega⟩
      have q1:subS w 0 (i:Int)=some (mkB (w.data.toList.take i)):=by
        have qq:w.extract (0:Int).toNat (i:Int).toNat=mkB (w.data.toList.take i):=by
          refine ba_ext ?_
          rw [ext_data,data_mkB]
          simp
        rw [subS,if_pos ⟨by omega,by omega,by omega⟩,qq]
      have q2:subS w ((i+1:Nat):Int) (w.size:Int)=some (mkB (w.data.toList.drop (i+1))):=by
        have qq:w.extract ((i+1:Nat):Int).toNat ((w.size:Nat):Int).toNat=mkB (w.data.toList.drop (i+1)):=by
          refine ba_ext ?_
          rw [ext_data,data_mkB,Int.toNat_natCast,Int.toNat_natCast]
          rw [List.take_of_length_le (by rw [List.length_drop,← ba_size]; exact Nat.le_refl _)]
        rw [subS,if_pos ⟨by omega,by omega,by omega⟩,qq]
      rw [m_spec_l11ReadAgent_L1,m_spec_l11ReadAgent_B1,h0,Option.bind_some,decide_eq_true (show (i:Int) < (w.size:Int) by omega),cond_true,show (([w].length:Int)==1)=true from rfl,cond_true,Option.bind_some,getB_at hx,Option.bind_some,h61,decide_eq_true hc,cond_true,Option.bind_some,q1,Option.bind_some,Option.bind_some,hck,Option.bind_some,q2,Option.bind_some,Option.bind_some,sHead_end y w _ _ hy]
      rfl
    · have hstep:m_spec_l11ReadAgent_L1 y K (g+1) [w] (i:Int)=m_spec_l11ReadAgent_L1 y K g [w] ((i+1:Nat):Int):=by
        rw [m_spec_l11ReadAgent_L1,m_spec_l11ReadAgent_B1,h0,Option.bind_some,decide_eq_true (show (i:Int) < (w.size:Int) by omega),cond_true,show (([w].length:Int)==1)=true from rfl,cond_true,Option.bind_some,getB_at hx,Option.bind_some,h61,decide_eq_false hc,cond_false,hck,Option.bind_some]
      refine ⟨fun h=>?_,fun j hj hl=>?_⟩
      · rw [hstep]
        refine ih.1 ?_
        rcases splitL_at 61 (w.data.toList.drop (i+1)) with ⟨h1,_⟩|⟨k,h1,_,_⟩
        · exact h1
        · rw [hdr,index_tail hc h1] at h; omega
      · rw [hstep]
        rcases splitL_at 61 (w.data.toList.drop (i+1)) with ⟨h1,_⟩|⟨k,h1,h2,_⟩
        · rw [hdr,index_miss hc h1] at hj; omega
        · have hjk:j=k+1:=by rw [hdr,index_tail hc h1] at hj; omega
          subst hjk
          rw [ih.2 k h1 h2]
          rw [show i+1+k=i+(k+1) by omega]
theorem cut_miss {c:UInt8} {s:ByteArray} (h:Lib.index s.data.toList [c] = -1):cutB1 s (ByteArray.mk #[c])=(s,ByteArray.mk #[],false):=by
  have e:(ByteArray.mk #[c]).data.toList=[c]:=rfl
  unfold cutB1 Lib.cut
  rw [e,h,if_neg (by decide)]
theorem cut_hit {c:UInt8} {s:ByteArray} {i:Nat} (h:Lib.index s.data.toList [c] = i):cutB1 s (ByteArray.mk #[c])=(mkB (s.data.toList.take i),mkB (s.data.toList.drop (i+1)),true):=by
  have e:(ByteArray.mk #[c]).data.toList=[c]:=rfl
  unfold cutB1 Lib.cut
  rw [e,h,if_pos (by omega)]
  rfl
theorem p_sHead (y:List ByteArray) (w:ByteArray) (hw:w.size≤1048576) (hy:y[0]? = some w) (K:List ByteArray→Option (DAgent × Bool)) (g:Nat) (hg:w.size+1 < g):m_spec_l11ReadAgent_L1 y K g [w] 0=K (sidesOf w):=by
  have h:=sHead y w hw hy K w.size 0 g (by omega) hg
  rw [List.drop_zero] at h
  unfold sidesOf
  rcases splitL_at 61 w.data.toList with ⟨h1,_⟩|⟨i,h1,h2,_⟩
  · rw [cut_miss h1,if_neg (fun e=>by cases e)]
    exact h.1 h1
  · rw [cut_hit h1,if_pos rfl]
    have:=h.2 i h1 h2
    simp only [Nat.zero_add] at this
    exact this
theorem cut_le (c:UInt8) (s:ByteArray):(cutB1 s (ByteArray.mk #[c])).1.size≤s.size∧(cutB1 s (ByteArray.mk #[c])).2.1.size≤s.size:=by
  rcases cut_cases c s with ⟨h1,_⟩|⟨a,b,h1,_,h3⟩
  · rw [h1]; exact ⟨Nat.le_refl _,by show (ByteArray.mk #[]).size≤s.size; rw [sz0]; omega⟩
  · rw [h1]; exact ⟨by show a.size≤_; omega,by show b.size≤_; omega⟩
/-- What the reference makes of the name and the level. -/
theorem names_p (h:ByteArray):((cutB1 h (ByteArray.mk #[47])).2.2=false∧(cutB1 h (ByteArray.mk #[47])).1=h∧splitS 47 h=[h]) ∨
    ((cutB1 h (ByteArray.mk #[47])).2.2=true∧splitS 47 h=[(cutB1 h (ByteArray.mk #[47])).1,(cutB1 h (ByteArray.mk #[47])).2.1]) ∨
    ((cutB1 h (ByteArray.mk #[47])).2.2=true∧2 < (splitS 47 h).length∧(splitS 47 h)[0]? = some (cutB1 h (ByteArray.mk #[47])).1∧rdD (cutB1 h (ByteArray.mk #[47])).2.1=none):=by
  rcases cut_cases 47 h with ⟨h1,h2⟩|⟨a,b,h1,h2,_⟩
  · exact .inl ⟨by rw [h1],by rw [h1],h2⟩
  · rw [h1,h2]
    rcases cut_cases 47 b with ⟨_,h4⟩|⟨p,q,h3,h4,_⟩
    · exact .inr (.inl ⟨rfl,by rw [h4]⟩)
    · refine .inr (.inr ⟨rfl,?_,rfl,?_⟩)
      · rw [h4]
        have:=splitS_pos 47 q
        rw [List.length_cons,List.length_cons]
        omega
      · cases hr:rdD b with
        |none=>rfl
        |some n=>
          exfalso
          rcases splitL_at 47 b.data.toList with ⟨h5,h6⟩|⟨i,h5,h6,_⟩
          · have hq:=splitS_pos 47 q
            have:(splitS 47 b).length=1:=by rw [splitS,h6]; rfl
            rw [h4,List.length_cons] at this
            omega
          · have hm:=index_mem h5 h6
            have:=rdD_mem hr 47 hm
            have e:(47:UInt8).toNat=47:=rfl
            omega
theorem p_sAgent (s:ByteArray) (hs:s.size≤1048576):AgrA (m_spec_l11ReadAgent s) (rdA s):=by
  have hsp:m_spec_l11Split s 32=some (splitS 32 s):=p_sSplit 32 s hs
  have hl:=splitS_len 32 s
  have hsz :∀w∈splitS 32 s,w.size≤1048576:=fun w hw=>by have:=splitS_le hw; omega
  have hpos:=splitS_pos 32 s
  unfold m_spec_l11ReadAgent rdA
  rw [hsp,Option.bind_some]
  cases hw:splitS 32 s with
  |nil=>rw [hw] at hpos; simp at hpos
  |cons w0 ws=>
    rw [hw] at hl hsz
    have h0:=hsz w0 (by simp)
    have hw0:w0.size≤s.size:=splitS_le (c:=32) (by rw [hw]; simp)
    have hlen:(w0 :: ws).length≤1048577:=by omega
    have hd1:(w0 :: ws).drop 1=ws:=rfl
    rw [show getI (w0 :: ws) 0=some w0 from rfl,Option.bind_some,p_sHead (w0 :: ws) w0 h0 rfl _ _ (by omega)]
    have hcl:=cut_le 61 w0
    obtain ⟨⟨hd,ct,more⟩,hC⟩ :∃C,cutB1 w0 (ByteArray.mk #[61])=C:=⟨_,rfl⟩
    rw [hC] at hcl
    have hhd:hd.size≤1048576:=by have:=hcl.1; simp only at this; omega
    have hct:ct.size≤1048576:=by have:=hcl.2; simp only at this; omega
    have hside:sidesOf w0=if more=true then [hd,ct] else [w0]:=by unfold sidesOf; rw [hC]
    have hnm:more=false→hd=w0:=fun e=>by
      rcases cut_cases 61 w0 with ⟨h1,_⟩|⟨a,b,h1,_,_⟩
      · rw [hC] at h1; exact (Prod.mk.inj h1).1
      · rw [hC] at h1
        have:=(Prod.mk.inj (Prod.mk.inj h1).2).2
        rw [e] at this; cases this
    have hs0:getI (sidesOf w0) 0=some hd:=by
      rw [hside]
      cases more with
      |false=>rw [if_neg (by decide),hnm rfl]; rfl
      |true=>rw [if_pos rfl]; rfl
    have hn47:m_spec_l11Split hd 47=some (splitS 47 hd):=p_sSplit 47 hd hhd
    have hcl2:=cut_le 47 hd
    have hnp:=names_p hd
    obtain ⟨⟨nm,lev,led⟩,hD⟩ :∃D,cutB1 hd (ByteArray.mk #[47])=D:=⟨_,rfl⟩
    rw [hD] at hnp hcl2
    simp only at hnp hcl2
    simp only [hC,hD]
    -- contents and ports,at a level
    rw [m_spec_l11ReadAgent_A1,hs0,Option.bind_some,hn47,Option.bind_some]
    rcases hnp with ⟨e1,e2,e3⟩|⟨e1,e3⟩|⟨e1,e2,e3,e4⟩
    · subst e1
      rw [e2]
      rw [e3,show getI [hd] 0=some hd from rfl,Option.bind_some,show decide (([hd].length:Int) > 2)=false from rfl,cond_false,show (([hd].length:Int)==2)=false from rfl,cond_false,if_neg (by decide)]
      simp only
      cases more with
      |false=>
        rw [hside,if_neg (by decide),if_neg (by decide),show (([w0].length:Int)==2)=false from rfl,cond_false]
        have h:=sPorts2 (w0 :: ws) hlen hsz ⟨0,0,0,[],[]⟩ ws.length 1 (s.size+3) ⟨kindNamed hd,0,0,[],[]⟩ (by simp; omega) (by simp at hl; omega) (by simp)
        rw [hd1] at h
        exact h.fin rfl
      |true=>
        rw [hside,if_pos rfl,if_pos rfl,show (([hd,ct].length:Int)==2)=true from rfl,cond_true,show getI [hd,ct] 1=some ct from rfl,Option.bind_some]
        have hc:=p_sCont ⟨kindNamed hd,0,0,[],[]⟩ ct hct
        simp only at hc
        cases hr:rdC (kindNamed hd) 0 ct with
        |none=>
          rw [hr] at hc
          obtain ⟨z,hc⟩:=hc
          rw [hc]
          exact ⟨_,rfl⟩
        |some p=>
          rw [hr] at hc
          rw [show m_spec_l11ReadContent ⟨kindNamed hd,0,0,[],[]⟩ ct=_ from hc,Option.bind_some]
          simp only [cond_true]
          have h:=sPorts3 (w0 :: ws) hlen hsz ⟨0,0,0,[],[]⟩ ws.length 1 (s.size+3) ⟨kindNamed hd,0,p.1,p.2,[]⟩ (by simp; omega) (by simp at hl; omega) (by simp)
          rw [hd1] at h
          exact h.fin rfl
    · subst e1
      rw [e3,show getI [nm,lev] 0=some nm from rfl,Option.bind_some,show decide (([nm,lev].length:Int) > 2)=false from rfl,cond_false,show (([nm,lev].length:Int)==2)=true from rfl,cond_true,show getI [nm,lev] 1=some lev from rfl,Option.bind_some,p_sReadD,Option.bind_some,if_pos rfl]
      cases hl2:rdD lev with
      |none=>exact ⟨_,rfl⟩
      |some l=>
        simp only [pack,cond_true]
        cases more with
        |false=>
          rw [hside,if_neg (by decide),if_neg (by decide),show (([w0].length:Int)==2)=false from rfl,cond_false]
          have h:=sPorts4 (w0 :: ws) hlen hsz ⟨0,0,0,[],[]⟩ ws.length 1 ((w0 :: ws).length+1) ⟨kindNamed nm,l,0,[],[]⟩ (by simp; omega) (by simp; omega) (by simp)
          rw [hd1] at h
          exact h.fin rfl
        |true=>
          rw [hside,if_pos rfl,if_pos rfl,show (([hd,ct].length:Int)==2)=true from rfl,cond_true,show getI [hd,ct] 1=some ct from rfl,Option.bind_some]
          have hc:=p_sCont ⟨kindNamed nm,l,0,[],[]⟩ ct hct
          simp only at hc
          cases hr:rdC (kindNamed nm) 0 ct with
          |none=>
            rw [hr] at hc
            obtain ⟨z,hc⟩:=hc
            rw [hc]
            exact ⟨_,rfl⟩
          |some p=>
            rw [hr] at hc
            rw [show m_spec_l11ReadContent ⟨kindNamed nm,l,0,[],[]⟩ ct=_ from hc,Option.bind_some]
            simp only [cond_true]
            have h:=sPorts5 (w0 :: ws) hlen hsz ⟨0,0,0,[],[]⟩ ws.length 1 ((w0 :: ws).length+1) ⟨kindNamed nm,l,p.1,p.2,[]⟩ (by simp; omega) (by simp; omega) (by simp)
            rw [hd1] at h
            exact h.fin rfl
    · subst e1
      rw [show getI (splitS 47 hd) 0=some nm from getI_ok (i:=0) e3,Option.bind_some,decide_eq_true (show ((splitS 47 hd).length:Int) > 2 by omega),cond_true,if_pos rfl,e4]
      exact ⟨_,rfl⟩
end
section
open Go.RowKit Go.Sort
theorem port_cases (w:ByteArray):(∃x y,mapO rdD (splitS 46 w)=some [x,y]∧rdP w=some ⟨x,y⟩) ∨ (rdP w=none∧∀ds,mapO rdD (splitS 46 w)=some ds→((ds.length:Int) != 2)=true):=by
  match h:splitS 46 w with
  |[]=>exact .inr ⟨by unfold rdP; rw [h],fun ds hd=>by have:=mapO_len hd; simp at this; subst this; rfl⟩
  |[a]=>exact .inr ⟨by unfold rdP; rw [h],fun ds hd=>by have:=mapO_len hd; rw [this]; rfl⟩
  |a :: b :: c :: r=>exact .inr ⟨by unfold rdP; rw [h],fun ds hd=>by have:=mapO_len hd; rw [this]; simp; omega⟩
  |[a,b]=>
    cases ha:rdD a with
    |none=>exact .inr ⟨by unfold rdP; rw [h]; simp only [ha],fun ds hd=>by simp [mapO,ha] at hd⟩
    |some x=>
      cases hb:rdD b with
      |none=>exact .inr ⟨by unfold rdP; rw [h]; simp only [ha,hb],fun ds hd=>by simp [mapO,ha,hb] at hd⟩
      |some y=>exact .inl ⟨x,y,by simp [mapO,ha,hb],by unfold rdP; rw [h]; simp only [ha,hb]⟩
theorem iPorts1 (w0:ByteArray) (ws:List ByteArray) (hy:ws.length≤1048577) (hs :∀w∈ws,w.size≤1048576) (z0:DAgent) :∀(d i g:Nat) (z:DAgent),i+d=ws.length→d < g→z.ports.length≤i→AgrL (m_impl_readAgent_L1 (w0 :: ws) m_impl_readAgent_A1 g (i:Int) z0 z) z (mapO rdP (ws.drop i)):=by
  have hn:(((w0 :: ws).length - 1:Nat):Int)=(ws.length:Int):=by simp
  have hdr:(w0 :: ws).drop 1=ws:=rfl
  intro d
  induction d with
  |zero=>
    intro i g z hi hg ha
    obtain ⟨g,rfl⟩ :∃g',g=g'+1:=⟨g - 1,by omega⟩
    obtain rfl:i=ws.length:=by omega
    rw [m_impl_readAgent_L1,m_impl_readAgent_B1,hn,dge,cond_false,m_impl_readAgent_A1,List.drop_eq_nil_of_le (Nat.le_refl _)]
    simp [mapO,AgrL]
  |succ d ih=>
    intro i g z hi hg ha
    obtain ⟨g,rfl⟩ :∃g',g=g'+1:=⟨g - 1,by omega⟩
    have hlt:i < ws.length:=by omega
    rw [m_impl_readAgent_L1,m_impl_readAgent_B1,hn,dlt hlt,cond_true,hdr,getI_lt hlt,Option.bind_some,p_iNums 46 _ (hs _ (List.getElem_mem hlt)),Option.bind_some,List.drop_eq_getElem_cons hlt,mapO]
    rcases port_cases ws[i] with ⟨x,y,hm,hp⟩|⟨hp,h2⟩
    · rw [hp,hm]
      simp only [cond_true]
      rw [show (([x,y].length:Int) != 2)=false from rfl,cond_false,show getI [x,y] 0=some x from rfl,Option.bind_some,show getI [x,y] 1=some y from rfl,Option.bind_some,mustP_ok (by simp; omega),Option.bind_some]
      have:=ih (i+1) g ⟨z.kind,z.level,z.value,z.data,z.ports ++ [⟨x,y⟩]⟩ (by omega) (by omega) (by simp; omega)
      have e:((i+1:Nat):Int)=(i:Int)+1:=rfl
      rw [← e]
      cases hm:mapO rdP (ws.drop (i+1)) with
      |none=>rw [hm] at this; exact this
      |some ds=>
        rw [hm] at this
        unfold AgrL at this ⊢
        simp only [Option.map_some]
        rw [this]
        simp
    · rw [hp]
      cases hm:mapO rdD (splitS 46 ws[i]) with
      |none=>exact ⟨_,rfl⟩
      |some ds=>
        have:=h2 ds hm
        simp only [cond_true]
        rw [this]
        exact ⟨_,rfl⟩
theorem iPorts2 (w0:ByteArray) (ws:List ByteArray) (hy:ws.length≤1048577) (hs :∀w∈ws,w.size≤1048576) (z0:DAgent) :∀(d i g:Nat) (z:DAgent),i+d=ws.length→d < g→z.ports.length≤i→AgrL (m_impl_readAgent_L2 (w0 :: ws) m_impl_readAgent_A2 g (i:Int) z0 z) z (mapO rdP (ws.drop i)):=by
  have hn:(((w0 :: ws).length - 1:Nat):Int)=(ws.length:Int):=by simp
  have hdr:(w0 :: ws).drop 1=ws:=rfl
  intro d
  induction d with
  |zero=>
    intro i g z hi hg ha
    obtain ⟨g,rfl⟩ :∃g',g=g'+1:=⟨g - 1,by omega⟩
    obtain rfl:i=ws.length:=by omega
    rw [m_impl_readAgent_L2,m_impl_readAgent_B2,hn,dge,cond_false,m_impl_readAgent_A2,List.drop_eq_nil_of_le (Nat.le_refl _)]
    simp [mapO,AgrL]
  |succ d ih=>
    intro i g z hi hg ha
    obtain ⟨g,rfl⟩ :∃g',g=g'+1:=⟨g - 1,by omega⟩
    have hlt:i < ws.length:=by omega
    rw [m_impl_readAgent_L2,m_impl_readAgent_B2,hn,dlt hlt,cond_true,hdr,getI_lt hlt,Option.bind_some,p_iNums 46 _ (hs _ (List.getElem_mem hlt)),Option.bind_some,List.drop_eq_getElem_cons hlt,mapO]
    rcases port_cases ws[i] with ⟨x,y,hm,hp⟩|⟨hp,h2⟩
    · rw [hp,hm]
      simp only [cond_true]
      rw [show (([x,y].length:Int) != 2)=false from rfl,cond_false,show getI [x,y] 0=some x from rfl,Option.bind_some,show getI [x,y] 1=some y from rfl,Option.bind_some,mustP_ok (by simp; omega),Option.bind_some]
      have:=ih (i+1) g ⟨z.kind,z.level,z.value,z.data,z.ports ++ [⟨x,y⟩]⟩ (by omega) (by omega) (by simp; omega)
      have e:((i+1:Nat):Int)=(i:Int)+1:=rfl
      rw [← e]
      cases hm:mapO rdP (ws.drop (i+1)) with
      |none=>rw [hm] at this; exact this
      |some ds=>
        rw [hm] at this
        unfold AgrL at this ⊢
        simp only [Option.map_some]
        rw [this]
        simp
    · rw [hp]
      cases hm:mapO rdD (splitS 46 ws[i]) with
      |none=>exact ⟨_,rfl⟩
      |some ds=>
        have:=h2 ds hm
        simp only [cond_true]
        rw [this]
        exact ⟨_,rfl⟩
theorem iPorts3 (w0:ByteArray) (ws:List ByteArray) (hy:ws.length≤1048577) (hs :∀w∈ws,w.size≤1048576) (z0:DAgent) :∀(d i g:Nat) (z:DAgent),i+d=ws.length→d < g→z.ports.length≤i→AgrL (m_impl_readAgent_L3 (w0 :: ws) m_impl_readAgent_A3 g (i:Int) z0 z) z (mapO rdP (ws.drop i)):=by
  have hn:(((w0 :: ws).length - 1:Nat):Int)=(ws.length:Int):=by simp
  have hdr:(w0 :: ws).drop 1=ws:=rfl
  intro d
  induction d with
  |zero=>
    intro i g z hi hg ha
    obtain ⟨g,rfl⟩ :∃g',g=g'+1:=⟨g - 1,by omega⟩
    obtain rfl:i=ws.length:=by omega
    rw [m_impl_readAgent_L3,m_impl_readAgent_B3,hn,dge,cond_false,m_impl_readAgent_A3,List.drop_eq_nil_of_le (Nat.le_refl _)]
    simp [mapO,AgrL]
  |succ d ih=>
    intro i g z hi hg ha
    obtain ⟨g,rfl⟩ :∃g',g=g'+1:=⟨g - 1,by omega⟩
    have hlt:i < ws.length:=by omega
    rw [m_impl_readAgent_L3,m_impl_readAgent_B3,hn,dlt hlt,cond_true,hdr,getI_lt hlt,Option.bind_some,p_iNums 46 _ (hs _ (List.getElem_mem hlt)),Option.bind_some,List.drop_eq_getElem_cons hlt,mapO]
    rcases port_cases ws[i] with ⟨x,y,hm,hp⟩|⟨hp,h2⟩
    · rw [hp,hm]
      simp only [cond_true]
      rw [show (([x,y].length:Int) != 2)=false from rfl,cond_false,show getI [x,y] 0=some x from rfl,Option.bind_some,show getI [x,y] 1=some y from rfl,Option.bind_some,mustP_ok (by simp; omega),Option.bind_some]
      have:=ih (i+1) g ⟨z.kind,z.level,z.value,z.data,z.ports ++ [⟨x,y⟩]⟩ (by omega) (by omega) (by simp; omega)
      have e:((i+1:Nat):Int)=(i:Int)+1:=rfl
      rw [← e]
      cases hm:mapO rdP (ws.drop (i+1)) with
      |none=>rw [hm] at this; exact this
      |some ds=>
        rw [hm] at this
        unfold AgrL at this ⊢
        simp only [Option.map_some]
        rw [this]
        simp
    · rw [hp]
      cases hm:mapO rdD (splitS 46 ws[i]) with
      |none=>exact ⟨_,rfl⟩
      |some ds=>
        have:=h2 ds hm
        simp only [cond_true]
        rw [this]
        exact ⟨_,rfl⟩
theorem iPorts4 (w0:ByteArray) (ws:List ByteArray) (hy:ws.length≤1048577) (hs :∀w∈ws,w.size≤1048576) (z0:DAgent) :∀(d i g:Nat) (z:DAgent),i+d=ws.length→d < g→z.ports.length≤i→AgrL (m_impl_readAgent_L4 (w0 :: ws) m_impl_readAgent_A4 g (i:Int) z0 z) z (mapO rdP (ws.drop i)):=by
  have hn:(((w0 :: ws).length - 1:Nat):Int)=(ws.length:Int):=by simp
  have hdr:(w0 :: ws).drop 1=ws:=rfl
  intro d
  induction d with
  |zero=>
    intro i g z hi hg ha
    obtain ⟨g,rfl⟩ :∃g',g=g'+1:=⟨g - 1,by omega⟩
    obtain rfl:i=ws.length:=by omega
    rw [m_impl_readAgent_L4,m_impl_readAgent_B4,hn,dge,cond_false,m_impl_readAgent_A4,List.drop_eq_nil_of_le (Nat.le_refl _)]
    simp [mapO,AgrL]
  |succ d ih=>
    intro i g z hi hg ha
    obtain ⟨g,rfl⟩ :∃g',g=g'+1:=⟨g - 1,by omega⟩
    have hlt:i < ws.length:=by omega
    rw [m_impl_readAgent_L4,m_impl_readAgent_B4,hn,dlt hlt,cond_true,hdr,getI_lt hlt,Option.bind_some,p_iNums 46 _ (hs _ (List.getElem_mem hlt)),Option.bind_some,List.drop_eq_getElem_cons hlt,mapO]
    rcases port_cases ws[i] with ⟨x,y,hm,hp⟩|⟨hp,h2⟩
    · rw [hp,hm]
      simp only [cond_true]
      rw [show (([x,y].length:Int) != 2)=false from rfl,cond_false,show getI [x,y] 0=some x from rfl,Option.bind_some,show getI [x,y] 1=some y from rfl,Option.bind_some,mustP_ok (by simp; omega),Option.bind_some]
      have:=ih (i+1) g ⟨z.kind,z.level,z.value,z.data,z.ports ++ [⟨x,y⟩]⟩ (by omega) (by omega) (by simp; omega)
      have e:((i+1:Nat):Int)=(i:Int)+1:=rfl
      rw [← e]
      cases hm:mapO rdP (ws.drop (i+1)) with
      |none=>rw [hm] at this; exact this
      |some ds=>
        rw [hm] at this
        unfold AgrL at this ⊢
        simp only [Option.map_some]
        rw [this]
        simp
    · rw [hp]
      cases hm:mapO rdD (splitS 46 ws[i]) with
      |none=>exact ⟨_,rfl⟩
      |some ds=>
        have:=h2 ds hm
        simp only [cond_true]
        rw [this]
        exact ⟨_,rfl⟩
theorem p_iAgent (s:ByteArray) (hs:s.size≤1048576):AgrA (m_impl_readAgent s) (rdA s):=by
  have hl:=splitS_len 32 s
  have hsz :∀w∈splitS 32 s,w.size≤1048576:=fun w hw=>by have:=splitS_le hw; omega
  have hpos:=splitS_pos 32 s
  unfold m_impl_readAgent rdA
  rw [p_split 32 s hs,Option.bind_some]
  cases hw:splitS 32 s with
  |nil=>rw [hw] at hpos; simp at hpos
  |cons w0 ws=>
    rw [hw] at hl hsz
    have h0:=hsz w0 (by simp)
    have hsw :∀w∈ws,w.size≤1048576:=fun w h=>hsz w (by simp [h])
    have hlw:ws.length≤1048577:=by simp at hl; omega
    rw [show getI (w0 :: ws) 0=some w0 from rfl,Option.bind_some,p_cut 61 w0 h0,Option.bind_some]
    have hcl:=cut_le 61 w0
    obtain ⟨⟨hd,ct,more⟩,hC⟩ :∃C,cutB1 w0 (ByteArray.mk #[61])=C:=⟨_,rfl⟩
    rw [hC] at hcl
    have hhd:hd.size≤1048576:=by have:=hcl.1; simp only at this; omega
    have hct:ct.size≤1048576:=by have:=hcl.2; simp only at this; omega
    simp only [hC]
    rw [p_cut 47 hd hhd,Option.bind_some]
    have hcl2:=cut_le 47 hd
    obtain ⟨⟨nm,lev,led⟩,hD⟩ :∃D,cutB1 hd (ByteArray.mk #[47])=D:=⟨_,rfl⟩
    rw [hD] at hcl2
    have hlev:lev.size≤1048576:=by have:=hcl2.2; simp only at this; omega
    simp only [hD]
    have hm1:mustP (1≤(w0 :: ws).length)=some ():=mustP_ok (by simp)
    cases led with
    |false=>
      rw [cond_false,if_neg (by decide)]
      simp only
      cases more with
      |false=>
        rw [cond_false,if_neg (by decide),hm1,Option.bind_some]
        have h:=iPorts1 w0 ws hlw hsw ⟨0,0,0,[],[]⟩ ws.length 0 (((w0 :: ws).length - 1:Nat)+1) ⟨kindNamed nm,0,0,[],[]⟩ (by omega) (by simp) (by simp)
        rw [List.drop_zero] at h
        exact h.fin rfl
      |true=>
        rw [cond_true,if_pos rfl]
        have hc:=p_iCont ⟨kindNamed nm,0,0,[],[]⟩ ct hct
        simp only at hc
        cases hr:rdC (kindNamed nm) 0 ct with
        |none=>
          rw [hr] at hc
          obtain ⟨z,hc⟩:=hc
          rw [hc]
          exact ⟨_,rfl⟩
        |some p=>
          rw [hr] at hc
          rw [show m_impl_readContents ⟨kindNamed nm,0,0,[],[]⟩ ct=_ from hc,Option.bind_some]
          simp only [cond_true]
          rw [hm1,Option.bind_some]
          have h:=iPorts2 w0 ws hlw hsw ⟨0,0,0,[],[]⟩ ws.length 0 (((w0 :: ws).length - 1:Nat)+1) ⟨kindNamed nm,0,p.1,p.2,[]⟩ (by omega) (by simp) (by simp)
          rw [List.drop_zero] at h
          exact h.fin rfl
    |true=>
      rw [cond_true,if_pos rfl,p_iReadD lev hlev,Option.bind_some]
      cases hl2:rdD lev with
      |none=>exact ⟨_,rfl⟩
      |some l=>
        simp only [pack,cond_true]
        cases more with
        |false=>
          rw [cond_false,if_neg (by decide),hm1,Option.bind_some]
          have h:=iPorts3 w0 ws hlw hsw ⟨0,0,0,[],[]⟩ ws.length 0 (((w0 :: ws).length - 1:Nat)+1) ⟨kindNamed nm,l,0,[],[]⟩ (by omega) (by simp) (by simp)
          rw [List.drop_zero] at h
          exact h.fin rfl
        |true=>
          rw [cond_true,if_pos rfl]
          have hc:=p_iCont ⟨kindNamed nm,l,0,[],[]⟩ ct hct
          simp only at hc
          cases hr:rdC (kindNamed nm) 0 ct with
          |none=>
            rw [hr] at hc
            obtain ⟨z,hc⟩:=hc
            rw [hc]
            exact ⟨_,rfl⟩
          |some p=>
            rw [hr] at hc
            rw [show m_impl_readContents ⟨kindNamed nm,l,0,[],[]⟩ ct=_ from hc,Option.bind_some]
            simp only [cond_true]
            rw [hm1,Option.bind_some]
            have h:=iPorts4 w0 ws hlw hsw ⟨0,0,0,[],[]⟩ ws.length 0 (((w0 :: ws).length - 1:Nat)+1) ⟨kindNamed nm,l,p.1,p.2,[]⟩ (by omega) (by simp) (by simp)
            rw [List.drop_zero] at h
            exact h.fin rfl
end
section
open Go.RowKit Go.Sort
/-- No ';'. -/
def NoC (b:ByteArray):Prop:=∀c∈b.data.toList,c ≠ 59
theorem NoC.app {a b:ByteArray} (h1:NoC a) (h2:NoC b):NoC (a ++ b):=fun c hc=>by
  rw [ba_app,List.mem_append] at hc
  rcases hc with hc|hc
  · exact h1 c hc
  · exact h2 c hc
theorem NoC.one {c:UInt8} (h:c ≠ 59):NoC (ByteArray.mk #[c]):=fun d hd=>by
  have:d=c:=by simpa using hd
  rw [this]; exact h
theorem NoC.nil:NoC (ByteArray.mk #[]):=fun d hd=>by simp at hd
theorem NoC.itoa (n:Int):NoC (itoaB n):=fun c hc e=>by
  have:=itoa_mem (n:=n) (c:=c) hc
  subst e
  simp at this
theorem NoC.kind (k:Int):NoC (kindName k):=by
  by_cases h:k < 1 ∨ 12 < k
  · rw [kindName_out h]; exact NoC.nil
  · have hk:k=1 ∨ k=2 ∨ k=3 ∨ k=4 ∨ k=5 ∨ k=6 ∨ k=7 ∨ k=8 ∨ k=9 ∨ k=10 ∨ k=11 ∨ k=12:=by omega
    unfold NoC
    rcases hk with rfl|rfl|rfl|rfl|rfl|rfl|rfl|rfl|rfl|rfl|rfl|rfl <;> decide
theorem NoC.op (n:Int):NoC (opT n):=by
  unfold opT
  repeat' split
  all_goals first|exact NoC.nil|exact NoC.one (by decide)
theorem NoC.join (s:ByteArray) (hs:NoC s) :∀(n:Nat) (xs:List ByteArray),xs.length=n→(∀x∈xs,NoC x)→NoC (joinB xs s):=by
  intro n
  induction n with
  |zero=>
    intro xs hn _
    obtain rfl:xs=[]:=List.eq_nil_of_length_eq_zero hn
    exact NoC.nil
  |succ n ih=>
    intro xs hn hx
    rcases List.eq_nil_or_concat xs with rfl|⟨ys,y,rfl⟩
    · simp at hn
    · rw [List.concat_eq_append] at *
      have hy:=hx y (by simp)
      have h1:=ih ys (by simpa using hn) (fun x h=>hx x (by simp [h]))
      by_cases h0:ys=[]
      · subst h0
        rw [List.nil_append,joinB_one]; exact hy
      · rw [joinB_snoc h0]
        exact (h1.app hs).app hy
theorem NoC.nums (l:List Int):NoC (numsB l 44):=NoC.join _ (NoC.one (by decide)) _ _ rfl (fun x hx=>by
  obtain ⟨n,_,rfl⟩:=List.mem_map.1 hx
  exact NoC.itoa n)
theorem NoC.ports :∀(ps:List DPort) (z:ByteArray),NoC z→NoC (portsT ps z)
  |[],z,h=>h
  |p :: ps,z,h=>by
    have:NoC (portT p):=((((NoC.one (by decide)).app (NoC.itoa _)).app (NoC.one (by decide))).app (NoC.itoa _))
    exact NoC.ports ps (z ++ portT p) (h.app this)
theorem NoC.agent (x:DAgent):NoC (agT x):=by
  refine NoC.ports _ _ (NoC.app ?_ ?_)
  · unfold headT
    split
    · exact (NoC.kind _).app ((NoC.one (by decide)).app (NoC.itoa _))
    · exact NoC.kind _
  · unfold bodyT
    repeat' split
    · exact (NoC.one (by decide)).app (NoC.itoa _)
    · exact (NoC.one (by decide)).app (NoC.op _)
    · exact (((NoC.one (by decide)).app (NoC.op _)).app (NoC.one (by decide))).app (NoC.nums _)
    · exact (NoC.one (by decide)).app (NoC.nums _)
    · exact NoC.nil
theorem splitL_no (c:UInt8) :∀a:List UInt8,(∀x∈a,x ≠ c)→splitL c a=[a]
  |[],_=>rfl
  |x :: a,h=>by
    rw [splitL,if_neg (h x (by simp)),splitL_no c a (fun y hy=>h y (by simp [hy]))]
theorem splitL_app (c:UInt8) (r:List UInt8) :∀a:List UInt8,(∀x∈a,x ≠ c)→splitL c (a ++ c :: r)=a :: splitL c r
  |[],_=>by rw [List.nil_append,splitL,if_pos rfl]
  |x :: a,h=>by
    rw [List.cons_append,splitL,if_neg (h x (by simp)),splitL_app c r a (fun y hy=>h y (by simp [hy]))]
theorem jt_cons (s x:List UInt8) (xs:List (List UInt8)):Lib.joinTail s (x :: xs)=s ++ x ++ Lib.joinTail s xs:=by simp [Lib.joinTail]
theorem jt_nil (s:List UInt8):Lib.joinTail s [] = []:=rfl
theorem splitL_join :∀(xs:List (List UInt8)) (a:List UInt8),(∀x∈a,x ≠ 59)→(∀y∈xs,∀x∈y,x ≠ 59)→splitL 59 (a ++ Lib.joinTail [59,32] xs)=a :: xs.map (32 :: ·)
  |[],a,h,_=>by rw [jt_nil,List.append_nil,splitL_no 59 a h]; rfl
  |x :: xs,a,h,hx=>by
    have h32 :∀y∈(32 :: x:List UInt8),y ≠ 59:=fun y hy=>by
      rcases List.mem_cons.1 hy with rfl|hy
      · decide
      · exact hx x (by simp) y hy
    have e:a ++ Lib.joinTail [59,32] (x :: xs)=a ++ 59 :: ((32 :: x) ++ Lib.joinTail [59,32] xs):=by rw [jt_cons]; simp
    rw [e,splitL_app 59 _ a h,splitL_join xs (32 :: x) h32 (fun y hy=>hx y (by simp [hy]))]
    rfl
theorem index_no {a:List UInt8} (h :∀x∈a,x ≠ 59):Lib.index a [59,32] = -1:=Lib.index_none (fun j hj=>by
  cases ho:Lib.occAt a [59,32] j with
  |false=>rfl
  |true=>
    have:=Lib.occAt_head (c:=59) (t:=[32]) rfl ho
    exact absurd rfl (h 59 (List.mem_of_getElem? this)))
theorem index_yes {a r:List UInt8} (h :∀x∈a,x ≠ 59):Lib.index (a ++ 59 :: 32 :: r) [59,32] = (a.length:Nat):=by
  refine Lib.index_hit (fun j hj=>?_) (by simp) ?_
  · cases ho:Lib.occAt (a ++ 59 :: 32 :: r) [59,32] j with
    |false=>rfl
    |true=>
      have:=Lib.occAt_head (c:=59) (t:=[32]) rfl ho
      rw [List.getElem?_append_left hj] at this
      exact absurd rfl (h 59 (List.mem_of_getElem? this))
  · unfold Lib.occAt
    rw [List.drop_left]
    simp [List.isPrefixOf]
theorem splitK_join :∀(xs:List (List UInt8)) (a:List UInt8),(∀x∈a,x ≠ 59)→(∀y∈xs,∀x∈y,x ≠ 59)→Lib.splitK [59,32] 0 (Lib.count (a ++ Lib.joinTail [59,32] xs) [59,32]) (a ++ Lib.joinTail [59,32] xs)=a :: xs
  |[],a,h,_=>by rw [jt_nil,List.append_nil,Lib.count_miss (index_no h)]; rfl
  |x :: xs,a,h,hx=>by
    have e:a ++ Lib.joinTail [59,32] (x :: xs)=a ++ 59 :: 32 :: (x ++ Lib.joinTail [59,32] xs):=by rw [jt_cons]; simp
    have hd:(a ++ 59 :: 32 :: (x ++ Lib.joinTail [59,32] xs)).drop (a.length+2)=x ++ Lib.joinTail [59,32] xs:=by
      rw [List.drop_append]
      simp
    have ih:=splitK_join xs x (hx x (by simp)) (fun y hy=>hx y (by simp [hy]))
    rw [e,Lib.count_hit (by simp) (index_yes h),show ([59,32] : List UInt8).length=2 from rfl,hd,Nat.add_comm,Lib.splitK,index_yes h,if_neg (by simp <;> omega)]
    rw [Int.toNat_natCast,show ([59,32] : List UInt8).length=2 from rfl,hd,ih]
    simp
theorem netT_data (x:DAgent) (xs:List DAgent):(netT ⟨x :: xs⟩).data.toList=(agT x).data.toList ++ Lib.joinTail [59,32] ((xs.map agT).map (·.data.toList)):=by
  unfold netT joinB
  rw [List.map_cons,List.map_cons,Lib.join_cons]
theorem parts_spec (x:DAgent) (xs:List DAgent):splitS 59 (netT ⟨x :: xs⟩)=agT x :: (xs.map agT).map fun t=>mkB (32 :: t.data.toList):=by
  unfold splitS
  rw [netT_data,splitL_join _ _ (NoC.agent x) (fun y hy=>by
    obtain ⟨t,ht,rfl⟩:=List.mem_map.1 hy
    obtain ⟨a,_,rfl⟩:=List.mem_map.1 ht
    exact NoC.agent a),List.map_cons,mkB_data,List.map_map,List.map_map]
  rfl
theorem parts_impl (x:DAgent) (xs:List DAgent):splitB1 (netT ⟨x :: xs⟩) (ByteArray.mk #[59,32])=(x :: xs).map agT:=by
  have h:=Lib.splitB_data (ByteArray.mk #[59,32]) 0 (Lib.countB (netT ⟨x :: xs⟩) (ByteArray.mk #[59,32])) (netT ⟨x :: xs⟩)
  have e:(ByteArray.mk #[59,32]).data.toList=[59,32]:=rfl
  rw [e] at h
  have h3:(splitB1 (netT ⟨x :: xs⟩) (ByteArray.mk #[59,32])).map (·.data.toList)=(agT x).data.toList :: (xs.map agT).map (·.data.toList):=by
    unfold splitB1 Lib.countB
    rw [e]
    unfold Lib.countB at h
    rw [e] at h
    rw [h,netT_data,splitK_join _ _ (NoC.agent x) (fun y hy=>by
      obtain ⟨t,ht,rfl⟩:=List.mem_map.1 hy
      obtain ⟨a,_,rfl⟩:=List.mem_map.1 ht
      exact NoC.agent a)]
  have h4:(splitB1 (netT ⟨x :: xs⟩) (ByteArray.mk #[59,32])).map (·.data.toList)=((x :: xs).map agT).map (·.data.toList):=h3
  have inj :∀{p q:List ByteArray},p.map (·.data.toList)=q.map (·.data.toList)→p=q:=fun {p q} hpq=>by
    have:=congrArg (List.map mkB) hpq
    rw [List.map_map,List.map_map] at this
    have hid:(mkB ∘ fun x:ByteArray=>x.data.toList)=id:=by funext y; exact mkB_data y
    rw [hid,List.map_id,List.map_id] at this
    exact this
  exact inj h4
end
section
open Go.RowKit Go.Sort
theorem rdA_ports {s:ByteArray} {a:DAgent} (h:rdA s=some a):a.ports.length≤s.size+1:=by
  have hl:=splitS_len 32 s
  unfold rdA at h
  cases hw:splitS 32 s with
  |nil=>rw [hw] at h; cases h
  |cons w0 ws=>
    rw [hw] at h hl
    simp only at h
    split at h
    · cases h
    · split at h
      · cases h
      · obtain ⟨ps,hp,rfl⟩:=Option.map_eq_some_iff.1 h
        have:=mapO_len hp
        simp only
        rw [List.length_cons] at hl
        omega
theorem small_ok {xs:List DAgent} (h:agentsOk xs=true):Small xs:=by
  obtain ⟨_,hl,ha⟩:=agentsOk_iff.1 h
  have key :∀(ys:List DAgent),(∀y∈ys,agentOk y=true)→(ys.map szAgent).sum≤8 * ys.length:=by
    intro ys
    induction ys with
    |nil=>intro _; simp
    |cons y ys ih=>
      intro h
      have h1:=agentOk_p (h y (by simp))
      have h2:=content_len h1.1
      have h3:=h1.2.2
      have h4:=ih (fun z hz=>h z (by simp [hz]))
      simp only [List.map_cons,List.sum_cons,List.length_cons,szAgent]
      omega
  have:=key xs (fun y hy=>by
    obtain ⟨i,hi,rfl⟩:=List.getElem_of_mem hy
    exact (ha i _ (List.getElem?_eq_getElem hi)).1)
  unfold Small szAgentS
  omega
theorem not_valid {xs:List DAgent} (h:agentsOk xs=false):validNet ⟨xs⟩=false:=by
  cases hv:validNet ⟨xs⟩ with
  |false=>rfl
  |true=>
    have:=agentsOk_iff.2 (validNet_iff.1 hv).1
    rw [h] at this; cases this
theorem p_ok2 (d:DNet) (hb :∀x∈d.agents,x.ports.length≤9223372036854775807):m_spec_l11Ok d=some (validNet d):=by
  obtain ⟨xs⟩:=d
  cases h:agentsOk xs with
  |true=>exact p_ok _ (small_ok h)
  |false=>
    unfold m_spec_l11Ok
    rw [p_agents xs hb,Option.bind_some,h,cond_false,not_valid h]
theorem p_valid2 (d:DNet) (hb :∀x∈d.agents,x.ports.length≤9223372036854775807):m_impl_ValidNet d=some (validNet d):=by
  obtain ⟨xs⟩:=d
  cases h:agentsOk xs with
  |true=>exact p_valid _ (small_ok h)
  |false=>
    unfold m_impl_ValidNet
    rw [p_areAgents xs hb,Option.bind_some,h,cond_false,not_valid h]
/-- The agent behind a blank. -/
noncomputable def rdQ (q:ByteArray):Option DAgent:=match q.data.toList with
  |c :: r=>if c=32 then rdA (mkB r) else none
  |[]=>none
/-- The agents that the reference, and that the program, reads. -/
noncomputable def sAgents (s:ByteArray):Option (List DAgent):=match splitS 59 s with
  |[]=>none
  |q :: qs=>match rdA q with
    |none=>none
    |some a=>(mapO rdQ qs).map (a :: ·)
noncomputable def iAgents (s:ByteArray):Option (List DAgent):=if (splitB1 s (ByteArray.mk #[59,32])).length≤600 then mapO rdA (splitB1 s (ByteArray.mk #[59,32])) else none
open Classical in
noncomputable def finN (r:Option (List DAgent)) (s:ByteArray):DNet × Int:=match r with
  |none=>(⟨[]⟩,6)
  |some zs=>if validNet ⟨zs⟩=true∧netT ⟨zs⟩=s then (⟨zs⟩,0) else (⟨[]⟩,6)
theorem fin_yes {zs:List DAgent} {s:ByteArray} (hv:validNet ⟨zs⟩=true) (hn:netT ⟨zs⟩=s):finN (some zs) s=(⟨zs⟩,0):=by
  unfold finN
  exact if_pos ⟨hv,hn⟩
theorem fin_no {zs:List DAgent} {s:ByteArray} (h:¬ (validNet ⟨zs⟩=true∧netT ⟨zs⟩=s)):finN (some zs) s=(⟨[]⟩,6):=by
  unfold finN
  exact if_neg h
theorem rdQ_32 (t:List UInt8):rdQ (mkB (32 :: t))=rdA (mkB t):=by
  unfold rdQ
  rw [data_mkB]
  simp
theorem sAgents_net (x:DAgent) (xs:List DAgent):sAgents (netT ⟨x :: xs⟩)=mapO rdA ((x :: xs).map agT):=by
  unfold sAgents
  rw [parts_spec]
  simp only [List.map_cons,mapO]
  have :∀ts:List ByteArray,mapO rdQ (ts.map fun t=>mkB (32 :: t.data.toList))=mapO rdA ts:=by
    intro ts
    induction ts with
    |nil=>rfl
    |cons t ts ih=>simp only [List.map_cons,mapO,rdQ_32,mkB_data,ih]
  rw [this]
  cases rdA (agT x) <;> rfl
theorem fin_same (s:ByteArray):finN (sAgents s) s=finN (iAgents s) s:=by
  have key :∀zs,validNet ⟨zs⟩=true→netT ⟨zs⟩=s→sAgents s=iAgents s:=fun zs hv hn=>by
    have hl:=(valid_p hv).1
    have h1:=(validNet_iff.1 hv).1.1
    cases zs with
    |nil=>simp at h1
    |cons x xs=>
      rw [← hn,sAgents_net]
      unfold iAgents
      rw [parts_impl,if_pos (by simpa using hl)]
  by_cases h :∃zs,validNet ⟨zs⟩=true∧netT ⟨zs⟩=s
  · obtain ⟨zs,h1,h2⟩:=h
    rw [key zs h1 h2]
  · have no :∀r,finN r s=(⟨[]⟩,6):=fun r=>by
      cases r with
      |none=>rfl
      |some zs=>exact fin_no (fun h'=>h ⟨zs,h'⟩)
    rw [no,no]
noncomputable def readNet (s:ByteArray):DNet × Int:=finN (sAgents s) s
theorem readNet_small (s:ByteArray):szNet (readNet s).1≤1048576:=by
  unfold readNet
  cases sAgents s with
  |none=>
    show szNet ⟨[]⟩≤1048576
    decide
  |some zs=>
    by_cases h:validNet ⟨zs⟩=true∧netT ⟨zs⟩=s
    · rw [fin_yes h.1 h.2]
      exact small_ok (agentsOk_iff.2 (validNet_iff.1 h.1).1)
    · rw [fin_no h]
      show szNet ⟨[]⟩≤1048576
      decide
theorem sEnd (s:ByteArray) (z0:DNet) (zs:List DAgent) (hb :∀x∈zs,x.ports.length≤9223372036854775807):m_spec_ReadNet_A1 s z0 ⟨zs⟩=some (finN (some zs) s):=by
  rw [m_spec_ReadNet_A1,p_ok2 _ hb,Option.bind_some]
  cases hv:validNet ⟨zs⟩ with
  |false=>rw [cond_false,fin_no (fun h=>by rw [hv] at h; cases h.1)]
  |true=>
    rw [cond_true,p_sText hv,Option.bind_some,eqS]
    by_cases hn:netT ⟨zs⟩=s
    · rw [decide_eq_true hn,cond_true,fin_yes hv hn]
    · rw [decide_eq_false hn,cond_false,fin_no (fun h=>hn h.2)]
theorem sLoop (s:ByteArray) (y:List ByteArray) (hy:y.length≤1048577) (hs :∀w∈y,w.size≤1048576) (z0:DNet) :∀(d i g:Nat) (zs:List DAgent),i+d=y.length→1≤i→d < g→zs.length≤i→(∀x∈zs,x.ports.length≤1048577)→
    m_spec_ReadNet_L1 y (m_spec_ReadNet_A1 s) g (i:Int) z0 ⟨zs⟩=some (finN ((mapO rdQ (y.drop i)).map (zs ++ ·)) s):=by
  intro d
  induction d with
  |zero=>
    intro i g zs hi h1 hg ha hb
    obtain ⟨g,rfl⟩ :∃g',g=g'+1:=⟨g - 1,by omega⟩
    obtain rfl:i=y.length:=by omega
    rw [m_spec_ReadNet_L1,m_spec_ReadNet_B1,dge,cond_false,List.drop_eq_nil_of_le (Nat.le_refl _),sEnd s z0 zs (fun x hx=>by have:=hb x hx; omega)]
    simp [mapO]
  |succ d ih=>
    intro i g zs hi h1 hg ha hb
    obtain ⟨g,rfl⟩ :∃g',g=g'+1:=⟨g - 1,by omega⟩
    have hlt:i < y.length:=by omega
    have hsz:=hs _ (List.getElem_mem hlt)
    rw [m_spec_ReadNet_L1,m_spec_ReadNet_B1,dlt hlt,cond_true,getI_lt hlt,Option.bind_some,show decide ((i:Int) > 0)=true by simp; omega,cond_true,List.drop_eq_getElem_cons hlt,mapO]
    generalize hq:y[i] = q at hsz
    rw [eqS]
    cases hl:q.data.toList with
    |nil=>
      have hqe:q=ByteArray.mk #[]:=ba_ext hl
      have hr:rdQ q=none:=by unfold rdQ; rw [hl]
      rw [decide_eq_true hqe,cond_true,hr]
      rfl
    |cons c r=>
      have hqe:q ≠ ByteArray.mk #[]:=fun e=>by rw [e] at hl; cases hl
      have h0:q.data.toList[0]? = some c:=by rw [hl]; rfl
      have hc:(((c.toNat:Nat):Int) != 32) = !(decide (c=32)):=by
        have:=u8_inj (a:=c) (b:=32)
        rw [← this]; rfl
      rw [decide_eq_false hqe,cond_false,show getB q 0=some _ from getB_at (k:=0) h0,Option.bind_some,hc]
      by_cases h32:c=32
      · have hr:rdQ q=rdA (mkB r):=by unfold rdQ; rw [hl]; simp [h32]
        have hsub:subS q 1 (q.size:Int)=some (mkB r):=by
          have hqq:q.extract (1:Int).toNat ((q.size:Nat):Int).toNat=mkB r:=by
            refine ba_ext ?_
            rw [ext_data,data_mkB,hl,Int.toNat_natCast]
            have:r.length=q.size - 1:=by rw [ba_size,hl]; simp
            show ((c :: r).drop 1).take (q.size - 1)=r
            rw [List.drop_one,List.tail_cons,← this,List.take_length]
          have hq1:1≤q.size:=by rw [ba_size,hl]; simp
          rw [subS,if_pos ⟨by omega,by omega,by omega⟩,hqq]
        have hrs:(mkB r).size≤1048576:=by
          have:q.size=(mkB r).size+1:=by rw [ba_size,ba_size,hl,data_mkB]; rfl
          omega
        rw [decide_eq_true h32,Bool.not_true,cond_false,hsub,Option.bind_some,hr]
        have hA:=p_sAgent (mkB r) hrs
        cases ha2:rdA (mkB r) with
        |none=>
          rw [ha2] at hA
          obtain ⟨z,hA⟩:=hA
          rw [hA]
          rfl
        |some a=>
          rw [ha2] at hA
          rw [show m_spec_l11ReadAgent (mkB r)=_ from hA,Option.bind_some]
          simp only [cond_true]
          rw [mustP_ok (by simp; omega),Option.bind_some]
          have hp:=rdA_ports ha2
          have:=ih (i+1) g (zs ++ [a]) (by omega) (by omega) (by omega) (by simp; omega) (fun x hx=>by
            rcases List.mem_append.1 hx with hx|hx
            · exact hb x hx
            · have:x=a:=by simpa using hx
              rw [this]; omega)
          have e:((i+1:Nat):Int)=(i:Int)+1:=rfl
          rw [← e,this]
          cases mapO rdQ (y.drop (i+1)) with
          |none=>rfl
          |some ds=>simp
      · have hr:rdQ q=none:=by unfold rdQ; rw [hl]; simp [h32]
        rw [decide_eq_false h32,Bool.not_false,cond_true,hr]
        rfl
theorem p_sReadNet (s:ByteArray) (hs:s.size≤1048576):m_spec_ReadNet s=some (readNet s):=by
  have hsp:m_spec_l11Split s 59=some (splitS 59 s):=p_sSplit 59 s hs
  have hl:=splitS_len 59 s
  have hpos:=splitS_pos 59 s
  have hsz :∀w∈splitS 59 s,w.size≤1048576:=fun w hw=>by have:=splitS_le hw; omega
  unfold m_spec_ReadNet readNet sAgents
  rw [hsp,Option.bind_some]
  cases hw:splitS 59 s with
  |nil=>rw [hw] at hpos; simp at hpos
  |cons q qs=>
    rw [hw] at hl hsz
    have hq:=hsz q (by simp)
    rw [m_spec_ReadNet_L1,m_spec_ReadNet_B1,show decide ((0:Int) < ((q :: qs).length:Int))=true by simp <;> omega,cond_true,show getI (q :: qs) 0=some q from rfl,Option.bind_some,show decide ((0:Int) > 0)=false from rfl,cond_false]
    have hA:=p_sAgent q hq
    cases ha2:rdA q with
    |none=>
      rw [ha2] at hA
      obtain ⟨z,hA⟩:=hA
      rw [hA]
      simp only [ha2]
      rfl
    |some a=>
      rw [ha2] at hA
      rw [show m_spec_l11ReadAgent q=_ from hA,Option.bind_some]
      simp only [cond_true,ha2]
      rw [mustP_ok (by simp),Option.bind_some]
      have hp:=rdA_ports ha2
      have:=sLoop s (q :: qs) (by omega) hsz ⟨[]⟩ qs.length 1 ((q :: qs).length) [a] (by simp; omega) (Nat.le_refl _) (by simp) (by simp) (fun x hx=>by
        have:x=a:=by simpa using hx
        rw [this]; omega)
      exact this
theorem iEnd (s:ByteArray) (z0:DNet) (zs:List DAgent) (hb :∀x∈zs,x.ports.length≤9223372036854775807):m_impl_ReadNet_A1 s z0 ⟨zs⟩=some (finN (some zs) s):=by
  rw [m_impl_ReadNet_A1,p_valid2 _ hb,Option.bind_some]
  cases hv:validNet ⟨zs⟩ with
  |false=>rw [cond_false,fin_no (fun h=>by rw [hv] at h; cases h.1)]
  |true=>
    rw [cond_true,p_iText hv,Option.bind_some,eqS]
    by_cases hn:netT ⟨zs⟩=s
    · rw [decide_eq_true hn,cond_true,fin_yes hv hn]
    · rw [decide_eq_false hn,cond_false,fin_no (fun h=>hn h.2)]
theorem iLoop (s:ByteArray) (y:List ByteArray) (hs :∀w∈y,w.size≤1048576) (z0:DNet) :∀(d i g:Nat) (zs:List DAgent),i+d=y.length→d < g→zs.length=i→i≤600→(∀x∈zs,x.ports.length≤1048577)→
    m_impl_ReadNet_L1 y (m_impl_ReadNet_A1 s) g (i:Int) z0 ⟨zs⟩=some (finN (if y.length≤600 then (mapO rdA (y.drop i)).map (zs ++ ·) else none) s):=by
  intro d
  induction d with
  |zero=>
    intro i g zs hi hg ha h6 hb
    obtain ⟨g,rfl⟩ :∃g',g=g'+1:=⟨g - 1,by omega⟩
    obtain rfl:i=y.length:=by omega
    rw [m_impl_ReadNet_L1,m_impl_ReadNet_B1,dge,cond_false,List.drop_eq_nil_of_le (Nat.le_refl _),iEnd s z0 zs (fun x hx=>by have:=hb x hx; omega),if_pos h6]
    simp [mapO]
  |succ d ih=>
    intro i g zs hi hg ha h6 hb
    obtain ⟨g,rfl⟩ :∃g',g=g'+1:=⟨g - 1,by omega⟩
    have hlt:i < y.length:=by omega
    have hsz:=hs _ (List.getElem_mem hlt)
    rw [m_impl_ReadNet_L1,m_impl_ReadNet_B1,dlt hlt,cond_true,getI_lt hlt,Option.bind_some,List.drop_eq_getElem_cons hlt,mapO]
    have hA:=p_iAgent y[i] hsz
    cases ha2:rdA y[i] with
    |none=>
      rw [ha2] at hA
      obtain ⟨z,hA⟩:=hA
      rw [hA]
      simp only [Option.bind_some,cond_false,Option.map_none,ite_self]
      rfl
    |some a=>
      rw [ha2] at hA
      rw [show m_impl_readAgent y[i] = _ from hA,Option.bind_some]
      simp only [cond_true]
      by_cases h600:i=600
      · rw [show ((zs.length:Int)==600)=true by simp; omega,cond_true,if_neg (by omega)]
        rfl
      · rw [show ((zs.length:Int)==600)=false by simp; omega,cond_false,mustP_ok (by simp; omega),Option.bind_some]
        have hp:=rdA_ports ha2
        have:=ih (i+1) g (zs ++ [a]) (by omega) (by omega) (by simp; omega) (by omega) (fun x hx=>by
          rcases List.mem_append.1 hx with hx|hx
          · exact hb x hx
          · have:x=a:=by simpa using hx
            rw [this]; omega)
        have e:((i+1:Nat):Int)=(i:Int)+1:=rfl
        rw [← e,this]
        cases mapO rdA (y.drop (i+1)) with
        |none=>rfl
        |some ds=>simp
theorem splitB1_le {s sep p:ByteArray} (hsep:1≤sep.size) (h:p∈splitB1 s sep):p.size≤s.size:=by
  have key :∀(k:Nat) (s p:ByteArray),p∈Lib.splitB sep 0 k s→p.size≤s.size:=by
    intro k
    induction k with
    | zero => intro s p h; have : p = s := by simpa [Lib.splitB] using h
              rw [this]; exact Nat.le_refl _
    |succ k ih=>
      intro s p h
      unfold Lib.splitB at h
      split at h
      · have:p=s:=by simpa using h
        rw [this]; exact Nat.le_refl _
      · rcases List.mem_cons.1 h with rfl|h
        · rw [ByteArray.size_extract]; omega
        · have:=ih _ p h
          rw [ByteArray.size_extract] at this
          omega
  exact key _ s p h
theorem p_iReadNet (s:ByteArray) (hs:s.size≤1048576):m_impl_ReadNet s=some (readNet s):=by
  unfold m_impl_ReadNet readNet
  rw [splitM,if_pos ⟨by omega,by rw [sz2]; omega⟩,Option.bind_some,fin_same]
  have:=iLoop s (splitB1 s (ByteArray.mk #[59,32])) (fun w hw=>by have:=splitB1_le (by rw [sz2]; omega) hw; omega) ⟨[]⟩ (splitB1 s (ByteArray.mk #[59,32])).length 0 ((splitB1 s (ByteArray.mk #[59,32])).length+1) [] (by omega) (by omega) rfl (by omega) (by simp)
  have e:iAgents s=if (splitB1 s (ByteArray.mk #[59,32])).length≤600 then (mapO rdA ((splitB1 s (ByteArray.mk #[59,32])).drop 0)).map (([] : List DAgent) ++ ·) else none:=by
    unfold iAgents
    rw [List.drop_zero]
    split
    · cases mapO rdA (splitB1 s (ByteArray.mk #[59,32])) <;> simp
    · rfl
  rw [e]
  exact this
end
section
open Go.RowKit
theorem ownNetR {e:TypeId} {w:World} {lo:Nat} {v:Value} {d:DNet} {bs:List Nat} (h:OwN e agentOw 5 w lo v d.agents bs):OwT netOw w (.agg #[v]) d lo w.heap.size:=by
  obtain ⟨A,n,c,l,rfl,h1,h2,h3,r⟩:=h.own1 agentOw_ok
  exact ⟨[.slice A n c],l,rfl,⟨A,n,c,l,rfl,⟨h1,r⟩,rfl⟩,h2,fun b hb=>⟨h.lo_ b (h3 b hb),h.hi b (h3 b hb)⟩⟩
theorem specReadNet_v (s:ByteArray) (w:World) (hW:WR w) (hs:s.size≤1048576) :
    Calls Tryz.prog 10 #[.string s] w fun e w'=>(∃v',e=.returned (.tuple #[v',.int .i64 (readNet s).2])∧OwT netOw w' v' (readNet s).1 w.heap.size w'.heap.size)∧Below w.heap.size w w':=
  (c_m_spec_ReadNet s _ (p_sReadNet s hs) w).mono fun e w' ⟨⟨v',bs,he,ho⟩,hb⟩=>⟨⟨_,he,ownNetR ho⟩,hb⟩
theorem implReadNet_v (s:ByteArray) (w:World) (hW:WR w) (hs:s.size≤1048576) :
    Calls Tryz.prog 11 #[.string s] w fun e w'=>(∃v',e=.returned (.tuple #[v',.int .i64 (readNet s).2])∧OwT netOw w' v' (readNet s).1 w.heap.size w'.heap.size)∧Below w.heap.size w w':=
  (c_m_impl_ReadNet s _ (p_iReadNet s hs) w hW).mono fun e w' ⟨⟨v',bs,he,ho⟩,hb⟩=>⟨⟨_,he,ownNetR ho⟩,hb⟩
end
section
open Go.RowKit
def marksF {α:Type} (f:Nat→α) (s k n:Nat):List α:=(List.range n).map fun i=>f (k+s * i)
theorem marksF_len {α:Type} (f:Nat→α) (s k n:Nat):(marksF f s k n).length=n:=by simp [marksF]
theorem marksF_succ {α:Type} (f:Nat→α) (s k n:Nat):marksF f s k (n+1)=marksF f s k n ++ [f (k+s * n)]:=by simp [marksF,List.range_succ]
theorem marksF_get {α:Type} {f:Nat→α} {s k n i:Nat} (hi:i < n):(marksF f s k n)[i]? = some (f (k+s * i)):=by simp [marksF,hi]
def mkPort (k:Nat):DPort:=(⟨(k:Int),(k:Int)+1⟩:DPort)
theorem mkPort_cells (k0 k:Nat):[Value.int .i64 (mkPort (k0+2 * k)).agent,Value.int .i64 (mkPort (k0+2 * k)).slot] = [.int .i64 ((k0:Int)+2 * k),.int .i64 ((k0:Int)+2 * k+1)]:=by simp [mkPort]
set_option maxHeartbeats 2000000 in
theorem markPortS_c (A:Option Addr) (n c k0:Nat) (xs:List DPort) (bs:List Nat) (w:World) (hx:OwAt portOw 2 w A n xs bs) (hnd:bs.Nodup) (hn:n≤4294967296) (hk0:k0≤4611686018427387904) :
    Calls Tryz.prog 52 #[.slice A n c,.int .i64 k0] w fun e w'=>e=.returned (.int .i64 ((k0+2 * n:Nat):Int))∧OwAt portOw 2 w' A n (marksF mkPort 2 k0 n) bs∧Only bs w w':=by
  have lx:=Lib.hid hx.len
  have hmid:=Lib.hid hx.mid
  clear hx
  go_enter Tryz.func52,Tryz.ntmps52
  go_wp2
  go_loopw [1,5] (fun kk i wr=>∃k:Nat,k≤n∧i=.int .i64 k∧kk=.int .i64 ((k0:Int)+2 * k)∧Only bs w wr∧Hid (MidAt portOw 2 wr A (marksF mkPort 2 k0 k) (xs.drop k) bs)) (fun _ i _=>n - (intOf i).toNat)
  case atStart=>exact ⟨0,by omega,rfl,by simp,Only.refl _ _,hmid.out⟩
  case round=>
    obtain ⟨k,hk,rfl,rfl,ho,hm⟩:=hrel
    by_cases hlt:k < n
    · obtain ⟨x,hxk⟩ :∃x,xs[k]? = some x:=⟨_,List.getElem?_eq_getElem (by have:=lx.out; omega)⟩
      have hm:=hm.out
      rw [drop_some hxk] at hm
      obtain ⟨b,o,cs,b1,bx,b2,rfl,hbs,hO,hc,h1,h2⟩:=hm.next
      obtain ⟨rfl,rfl⟩:=hO
      rw [marksF_len] at hc h2
      obtain ⟨hc0,hd0⟩:=hc 0 _ rfl
      obtain ⟨hc1,hd1⟩:=hc 1 _ rfl
      rw [Nat.add_zero] at hc0 hd0
      have HN:=Lib.hid hbs
      have Hx:=Lib.hid hxk
      have H1:=Lib.hid h1
      have H2:=Lib.hid h2
      clear hbs hxk h1 h2 hm hc
      go_wp2
      go_roundw
      case rel=>
        have hnd':=hnd
        rw [HN.out] at hnd'
        have hb:b ∉ b1∧b ∉ b2:=by simpa using (List.nodup_cons.1 hnd').1
        have hlen:(marksF mkPort 2 k0 k).length=k:=marksF_len _ _ _ _
        refine ⟨k+1,by omega,by go_num,by go_num,?_,?_⟩
        · exact ((ho.setCell (by rw [HN.out]; simp) _).setCell (by rw [HN.out]; simp) _)
        rw [marksF_succ,HN.out]
        refine MidAt.step (o:=o) rfl (ElAt.setRun portOw_ok (vs:=[.int .i64 ((k0:Int)+2 * k),.int .i64 ((k0:Int)+2 * k+1)]) (p:=o+k * 2) H1.out hb.1 (Or.inr (by omega))) (cs:=[.int .i64 ((k0:Int)+2 * k),.int .i64 ((k0:Int)+2 * k+1)]) ⟨(mkPort_cells k0 k).symm,rfl⟩ ?_ ?_
        · rw [hlen]
          exact setRun_csAt (vs:=[.int .i64 ((k0:Int)+2 * k),.int .i64 ((k0:Int)+2 * k+1)]) (fun j hj=>by
            match j,hj with
            |0,_=>exact ⟨_,hc0⟩
            |1,_=>exact ⟨_,hc1⟩
            |j+2,hj=>simp at hj; omega) (fun j hj=>by
            match j,hj with
            |0,_=>exact hd0
            |1,_=>exact hd1
            |j+2,hj=>simp at hj; omega)
        · rw [hlen]
          exact ElAt.setRun portOw_ok (vs:=[.int .i64 ((k0:Int)+2 * k),.int .i64 ((k0:Int)+2 * k+1)]) (p:=o+k * 2) H2.out hb.2 (Or.inl (by simp))
      case measure=>simp [intOf]; omega
    · obtain rfl:n=k:=by omega
      have hm:=hm.out
      rw [List.drop_of_length_le (by have:=lx.out; omega)] at hm
      have Hm:=Lib.hid (hm.whole (n:=n) (marksF_len _ _ _ _).symm)
      clear hm
      go_wp2
      go_ret
      exact ⟨rfl,Hm.out,ho⟩
end
section
open Go.RowKit
theorem Blk.only {w w':World} {g lo hi:Nat} {t:TypeId} {cs:Array Value} (h:Blk w g t cs) (ho:OnlyIn lo hi w w') (hg:g < lo ∨ hi≤g):Blk w' g t cs:=(ho.block g hg).trans h
def cntA (x:DAgent):Nat:=3+x.data.length+2 * x.ports.length
theorem cntL_agents (xs:List DAgent):cntL cntA xs≤3 * szAgentS xs:=by
  unfold szAgentS cntL
  have :∀ys:List DAgent,(ys.map cntA).sum≤3 * ys.length+2 * (ys.map szAgent).sum:=by
    intro ys
    induction ys with
    |nil=>simp
    |cons y ys ih=>
      have e:szAgent y=y.data.length+y.ports.length:=rfl
      simp only [List.map_cons,List.sum_cons,List.length_cons,cntA]
      omega
  have:=this xs
  omega
theorem szAgent_mem {xs:List DAgent} {k:Nat} {x:DAgent} (h:xs[k]? = some x) (hs:szAgentS xs≤1048576):x.data.length≤1048576∧x.ports.length≤1048576:=by
  have h1:szAgent x≤(xs.map szAgent).sum:=by
    have hm:=List.mem_of_getElem? h
    clear h hs
    induction xs with
    |nil=>cases hm
    |cons y ys ih=>
      rcases List.mem_cons.1 hm with rfl|h
      · simp
      · have:=ih h; simp; omega
  have e:szAgent x=x.data.length+x.ports.length:=rfl
  unfold szAgentS at hs
  omega
theorem set3_block {w:World} {b p j:Nat} {u0 u1 u2:Value} (h:j ≠ b):(((w.setCell ⟨b,p,none⟩ u0).setCell ⟨b,p+1,none⟩ u1).setCell ⟨b,p+2,none⟩ u2).heap[j]? = w.heap[j]?:=by
  rw [Below.heap_setCell _ ⟨b,p+2,none⟩ _ _ h,Below.heap_setCell _ ⟨b,p+1,none⟩ _ _ h,Below.heap_setCell _ ⟨b,p,none⟩ _ _ h]
theorem set3_cell {w:World} {b p q:Nat} {u0 u1 u2:Value} (h:p+3≤q):(((w.setCell ⟨b,p,none⟩ u0).setCell ⟨b,p+1,none⟩ u1).setCell ⟨b,p+2,none⟩ u2).cell? ⟨b,q,none⟩=w.cell? ⟨b,q,none⟩:=by
  rw [World.cell?_setCell_other _ _ _ _ (fun e=>by injection e with _ e2; omega),World.cell?_setCell_other _ _ _ _ (fun e=>by injection e with _ e2; omega),World.cell?_setCell_other _ _ _ _ (fun e=>by injection e with _ e2; omega)]
end
section
open Go.RowKit
def mkAgent (k:Nat) (x:DAgent):DAgent:=⟨(k:Int),((k+1:Nat):Int),((k+2:Nat):Int),marks (k+3) x.data.length,marksF mkPort 2 (k+3+x.data.length) x.ports.length⟩
def markA (k:Nat) (xs:List DAgent):List DAgent:=mkL mkAgent cntA k xs
set_option maxHeartbeats 4000000 in
theorem markAgentS_q (A:Option Addr) (n c k0:Nat) (xs:List DAgent) (bs:List Nat) (w:World) (hx:OwAt agentOw 5 w A n xs bs) (hnd:bs.Nodup) (hs:szAgentS xs≤1048576) (hk0:k0≤4294967296) :
    Calls Tryz.prog 25 #[.slice A n c,.int .i64 k0] w fun e w'=>e=.returned (.int .i64 ((k0+cntL cntA xs:Nat):Int))∧OwAt agentOw 5 w' A n (markA k0 xs) bs∧Only bs w w':=by
  have lx:=Lib.hid hx.len
  have hn:n≤1048576:=by have:=lx.out; unfold szAgentS at hs; omega
  have hcl:=cntL_agents xs
  have hmid:=Lib.hid hx.mid
  clear hx
  go_enter Tryz.func25,Tryz.ntmps25
  go_wp2_with fail
  go_loopw [1,5] (fun kk i wr=>∃k:Nat,k≤n∧i=.int .i64 k∧kk=.int .i64 ((k0:Int)+(cntL cntA (xs.take k):Nat))∧Only bs w wr∧Hid (MidAt agentOw 5 wr A (markA k0 (xs.take k)) (xs.drop k) bs)) (fun _ i _=>n - (intOf i).toNat)
  case atStart=>exact ⟨0,by omega,rfl,by simp [cntL],Only.refl _ _,hmid.out⟩
  case round=>
    obtain ⟨k,hk,rfl,rfl,ho,hm⟩:=hrel
    by_cases hlt:k < n
    · obtain ⟨x,hxk⟩ :∃x,xs[k]? = some x:=⟨_,List.getElem?_eq_getElem (by have:=lx.out; omega)⟩
      have hm:=hm.out
      rw [drop_some hxk] at hm
      obtain ⟨b,o,cs,b1,bx,b3,rfl,hbs,hO,hc,h1,h2⟩:=hm.next
      have hlen:(markA k0 (xs.take k)).length=k:=by unfold markA; rw [mkL_len,List.length_take]; have:=lx.out; omega
      rw [hlen] at hc h2
      obtain ⟨A1,n1,c1,A2,n2,c2,bd,bp,rfl,⟨hd,rd⟩,⟨hp,rp⟩,rfl⟩:=hO
      obtain ⟨hc0,hd0⟩:=hc 0 _ rfl
      obtain ⟨hc1,hd1⟩:=hc 1 _ rfl
      obtain ⟨hc2,hd2⟩:=hc 2 _ rfl
      obtain ⟨hc3,hd3⟩:=hc 3 _ rfl
      obtain ⟨hc4,hd4⟩:=hc 4 _ rfl
      rw [Nat.add_zero] at hc0 hd0
      have hsz:=szAgent_mem hxk hs
      have hct:=cntL_take (cnt:=cntA) hxk
      have hcx:cntA x=3+x.data.length+2 * x.ports.length:=rfl
      have hcm:=cntL_le (cnt:=cntA) xs (k+1)
      have hck:=cntL_le (cnt:=cntA) xs k
      have hnd':=hnd
      rw [hbs] at hnd'
      have nb:b ∉ b1∧(b ∉ bd∧b ∉ bp)∧b ∉ b3:=by have:=(List.nodup_cons.1 hnd').1; simp only [List.mem_append,not_or] at this; exact this
      have hn1:=List.nodup_append.1 (List.nodup_cons.1 hnd').2
      have hn2':=List.nodup_append.1 hn1.2.1
      have hn3:=List.nodup_append.1 hn2'.1
      have ld:=Lib.hid hd.len
      have lp:=Lib.hid hp.len
      have T0 :∀(u0 u1 u2:Value),Touch b (o+k * 5) 5 (bd ++ bp) wr (((wr.setCell ⟨b,o+k * 5,none⟩ u0).setCell ⟨b,o+k * 5+1,none⟩ u1).setCell ⟨b,o+k * 5+2,none⟩ u2):=fun u0 u1 u2=>
        ((Touch.refl.set (by omega) (by omega) _).set (by omega) (by omega) _).set (by omega) (by omega) _
      have S0 :∀(u0 u1 u2:Value),CsAt (((wr.setCell ⟨b,o+k * 5,none⟩ u0).setCell ⟨b,o+k * 5+1,none⟩ u1).setCell ⟨b,o+k * 5+2,none⟩ u2) b (o+k * 5) [u0,u1,u2]:=fun u0 u1 u2=>
        setRun_csAt (w:=wr) (vs:=[u0,u1,u2]) (fun j hj=>by
          rcases j with _|_|_|j
          · exact ⟨_,hc0⟩
          · exact ⟨_,hc1⟩
          · exact ⟨_,hc2⟩
          · simp only [List.length_cons,List.length_nil] at hj; omega) (fun j hj=>by
          rcases j with _|_|_|j
          · exact hd0
          · exact hd1
          · exact hd2
          · simp only [List.length_cons,List.length_nil] at hj; omega)
      have HE:=Lib.hid h2
      have HF:=Lib.hid h1
      have HD:=Lib.hid hd
      have HP:=Lib.hid hp
      have HX:=Lib.hid hxk
      have HT:=Lib.hid T0
      have HS:=Lib.hid S0
      have HI:=Lib.hid hbs
      have N0:=Lib.hid hn1
      have N1:=Lib.hid hn2'
      have N2:=Lib.hid hn3
      have NB:=Lib.hid nb
      have HL:=Lib.hid hct
      have HLN:=Lib.hid hlen
      clear h2 h1 hd hp hxk T0 S0 hbs hn1 hn2' hn3 nb hc hct hlen hnd' hm
      go_wp2_with fail
      have T3:=HT.out (.int .i64 ((k0:Int)+(cntL cntA (xs.take k):Nat))) (.int .i64 ((k0:Int)+(cntL cntA (xs.take k):Nat)+1)) (.int .i64 ((k0:Int)+(cntL cntA (xs.take k):Nat)+1+1))
      have S3:=HS.out (.int .i64 ((k0:Int)+(cntL cntA (xs.take k):Nat))) (.int .i64 ((k0:Int)+(cntL cntA (xs.take k):Nat)+1)) (.int .i64 ((k0:Int)+(cntL cntA (xs.take k):Nat)+1+1))
      rw [show (k0:Int)+(cntL cntA (xs.take k):Nat)+1+1+1=((k0+cntL cntA (xs.take k)+3:Nat):Int) from by omega]
      have OD:OwAt intOw 1 (((wr.setCell ⟨b,o+k * 5,none⟩ (.int .i64 ((k0:Int)+(cntL cntA (xs.take k):Nat)))).setCell ⟨b,o+k * 5+1,none⟩ (.int .i64 ((k0:Int)+(cntL cntA (xs.take k):Nat)+1))).setCell ⟨b,o+k * 5+2,none⟩ (.int .i64 ((k0:Int)+(cntL cntA (xs.take k):Nat)+1+1))) A1 n1 x.data bd:=
        HD.out.keep intOw_ok (fun j hj=>set3_block (fun e=>NB.out.2.1.1 (by rw [← e]; exact hj)))
      refine (markInt64S_c A1 n1 c1 (k0+cntL cntA (xs.take k)+3) x.data bd _ OD N2.out.1 (by have:=ld.out; omega) (by omega)).mono ?_
      rintro e w4 ⟨rfl,md,o4⟩
      have hc4':w4.cell? ⟨b,o+k * 5+4,none⟩=some (.slice A2 n2 c2):=((World.cell?_of_block (a:=⟨b,o+k * 5+4,none⟩) (o4.block b NB.out.2.1.1)).trans (set3_cell (by omega))).trans hc4
      have MD:=Lib.hid md
      clear md
      go_wp2_with fail
      rw [show (k0:Int)+(cntL cntA (xs.take k):Nat)+3+(n1:Nat)=((k0+cntL cntA (xs.take k)+3+n1:Nat):Int) from by omega]
      have OP:OwAt portOw 2 w4 A2 n2 x.ports bp:=HP.out.keep portOw_ok (fun j hj=>(o4.block j (fun hjd=>N2.out.2.2 j hjd j hj rfl)).trans (set3_block (fun e=>NB.out.2.1.2 (by rw [← e]; exact hj))))
      refine (markPortS_c A2 n2 c2 _ x.ports bp w4 OP N2.out.2.1 (by have:=lp.out; omega) (by have:=ld.out; omega)).mono ?_
      rintro e w5 ⟨rfl,mp,o5⟩
      have MP:=Lib.hid mp
      clear mp
      go_wp2_with fail
      go_roundw
      case rel=>
        have e1:=ld.out
        have e2:=lp.out
        have e3:=HL.out
        have OO:Only (b :: (bd ++ bp)) wr w5:=(T3.only_.trans (o4.mono (fun j hj=>by simp [hj]))).trans (o5.mono (fun j hj=>by simp [hj]))
        have hcell :∀q,w5.cell? ⟨b,q,none⟩=(((wr.setCell ⟨b,o+k * 5,none⟩ (.int .i64 ((k0:Int)+(cntL cntA (xs.take k):Nat)))).setCell ⟨b,o+k * 5+1,none⟩ (.int .i64 ((k0:Int)+(cntL cntA (xs.take k):Nat)+1))).setCell ⟨b,o+k * 5+2,none⟩ (.int .i64 ((k0:Int)+(cntL cntA (xs.take k):Nat)+1+1))).cell? ⟨b,q,none⟩:=fun q=>
          (World.cell?_of_block (a:=⟨b,q,none⟩) (o5.block b NB.out.2.1.2)).trans (World.cell?_of_block (a:=⟨b,q,none⟩) (o4.block b NB.out.2.1.1))
        have hfroz :∀q,w5.frozen? ⟨b,q,none⟩=(((wr.setCell ⟨b,o+k * 5,none⟩ (.int .i64 ((k0:Int)+(cntL cntA (xs.take k):Nat)))).setCell ⟨b,o+k * 5+1,none⟩ (.int .i64 ((k0:Int)+(cntL cntA (xs.take k):Nat)+1))).setCell ⟨b,o+k * 5+2,none⟩ (.int .i64 ((k0:Int)+(cntL cntA (xs.take k):Nat)+1+1))).frozen? ⟨b,q,none⟩:=fun q=>
          (World.frozen?_of_block (a:=⟨b,q,none⟩) (o5.block b NB.out.2.1.2)).trans (World.frozen?_of_block (a:=⟨b,q,none⟩) (o4.block b NB.out.2.1.1))
        refine ⟨k+1,by omega,by go_num,congrArg (Value.int .i64) (by omega),ho.trans (OO.mono (fun j hj=>?_)),?_⟩
        · rw [HI.out]; simp only [List.mem_cons,List.mem_append] at hj ⊢
          rcases hj with hj|hj
          · exact .inl hj
          · exact .inr (.inr (.inl hj))
        · show Hid _
          refine ?_
          unfold markA
          rw [mkL_take HX.out,HI.out]
          have hl:=HLN.out
          unfold markA at hl
          refine MidAt.step (o:=o) (cs:=[.int .i64 ((k0:Int)+(cntL cntA (xs.take k):Nat)),.int .i64 ((k0:Int)+(cntL cntA (xs.take k):Nat)+1),.int .i64 ((k0:Int)+(cntL cntA (xs.take k):Nat)+1+1),.slice A1 n1 c1,.slice A2 n2 c2]) rfl ?_ ?_ ?_ ?_
          · refine ElAt.keepC agentOw_ok (w:=wr) (fun q h1 h2=>?_) (fun j hj=>?_) HF.out
            · unfold markA at h2
              rw [hl] at h2
              exact ⟨(hcell q).trans (T3.cell q (.inl (by omega))),(hfroz q).trans (T3.frozen q)⟩
            · exact OO.block j (fun hin=>by
                rcases List.mem_cons.1 hin with rfl|hin
                · exact NB.out.1 hj
                · exact N0.out.2.2 j hj j (by simp only [List.mem_append] at hin ⊢; exact .inl hin) rfl)
          · refine ⟨A1,n1,c1,A2,n2,c2,bd,bp,?_,⟨?_,rd⟩,⟨?_,rp⟩,rfl⟩
            · simp only [mkAgent]
              rw [show ((k0+cntL cntA (xs.take k):Nat):Int)=(k0:Int)+(cntL cntA (xs.take k):Nat) from by omega,show ((k0+cntL cntA (xs.take k)+1:Nat):Int)=(k0:Int)+(cntL cntA (xs.take k):Nat)+1 from by omega,show ((k0+cntL cntA (xs.take k)+2:Nat):Int)=(k0:Int)+(cntL cntA (xs.take k):Nat)+1+1 from by omega]
            · have:=MD.out.keep intOw_ok (w':=w5) (fun j hj=>o5.block j (fun hin=>N2.out.2.2 j hj j hin rfl))
              simp only [mkAgent]; rw [← e1]; exact this
            · have:=MP.out
              simp only [mkAgent]; rw [← e1,← e2]; exact this
          · rw [hl]
            intro j v hj
            rw [hcell,hfroz]
            rcases j with _|_|_|_|_|j
            · exact S3 0 v hj
            · exact S3 1 v hj
            · exact S3 2 v hj
            · simp at hj; subst hj
              exact ⟨(set3_cell (by omega)).trans hc3,(T3.frozen _).trans hd3⟩
            · simp at hj; subst hj
              exact ⟨(set3_cell (by omega)).trans hc4,(T3.frozen _).trans hd4⟩
            · simp at hj
          · rw [hl]
            refine ElAt.keepC agentOw_ok (w:=wr) (fun q h1 h2=>?_) (fun j hj=>?_) HE.out
            · exact ⟨(hcell q).trans (T3.cell q (.inr (by omega))),(hfroz q).trans (T3.frozen q)⟩
            · exact OO.block j (fun hin=>by
                rcases List.mem_cons.1 hin with rfl|hin
                · exact NB.out.2.2 hj
                · exact N1.out.2.2 j hin j hj rfl)
      case measure=>simp [intOf]; omega
    · obtain rfl:n=k:=by omega
      have hlast:xs.take n=xs:=List.take_of_length_le (by have:=lx.out; omega)
      have hdl:xs.drop n=[]:=List.drop_eq_nil_of_le (by have:=lx.out; omega)
      have hm:=hm.out
      rw [hlast,hdl] at hm
      rw [hlast]
      have HM:=Lib.hid (hm.whole (by unfold markA; rw [mkL_len]; first|done|exact lx.out))
      clear hlast hdl hm
      go_wp2_with fail
      go_ret
      exact ⟨retI (by omega),by rw [lx.out]; first|exact HM.out|(have h:=HM.out; rw [lx.out] at h; exact h),ho⟩
theorem markNet_q (v:Value) (x:DNet) (w:World) (k:Int) (lo hi:Nat) (h:OwT netOw w v x lo hi) (hh:hi≤w.heap.size) (hs:szNet x≤1048576) (h0:0≤k) (hk:k≤16777216) :
    Calls Tryz.prog 12 #[v,.int .i64 k] w fun e w'=>e=.returned (.int .i64 ((k.toNat+cntL cntA x.agents:Nat):Int))∧∃wb,Below w.heap.size w wb∧wb.heap.size=w'.heap.size∧OnlyIn lo hi wb w'∧OwT netOw w' v ⟨markA k.toNat x.agents⟩ lo hi:=by
  obtain ⟨cs,bs,rfl,⟨A1,n1,c1,b1,rfl,⟨h1,r1⟩,rfl⟩,hnd,hb⟩:=h
  obtain ⟨k0,rfl⟩:=Int.eq_ofNat_of_zero_le h0
  have hA :∀o1,Below w.heap.size w (w.alloc o1):=fun o1=>(Below.refl _ _).alloc (Nat.le_refl _) _
  have HK:=Lib.hid (show∀o1,OwAt agentOw 5 (w.alloc o1) A1 n1 x.agents bs from fun o1=>h1.keep agentOw_ok (fun j hj=>(hA o1).block j (by have:=hb j hj; omega)))
  have HN:=Lib.hid hnd
  have HB:=Lib.hid hb
  have HS:szAgentS x.agents≤1048576:=hs
  have hcl:=cntL_agents x.agents
  clear h1 hb hnd
  go_enter Tryz.func12,Tryz.ntmps12
  go_wp2_with fail
  refine (markAgentS_q A1 n1 c1 k0 x.agents bs _ (HK.out _) HN.out HS (by omega)).mono ?_
  rintro e w1 ⟨rfl,m1,o1⟩
  have M1:=Lib.hid m1
  clear m1
  go_wp2_with fail
  go_ret
  exact ⟨rfl,_,hA _,o1.size.symm,o1.in_ HB.out,⟨_,bs,rfl,⟨A1,n1,c1,bs,rfl,⟨M1.out,r1⟩,rfl⟩,HN.out,HB.out⟩⟩
end
section
open Go.RowKit
set_option maxRecDepth 100000
def m_laws_heldInt64S_A1 (i1:Int):Option Int:=
  some i1
def m_laws_heldInt64S_B1 (d0:List Int) (rec1:Int→Int→Option Int) (K1:Int→Option Int) (i3:Int) (i4:Int):Option Int:=
  (bif (decide (i4 < (d0.length:Int))) then ((getI d0 i4).bind fun x7=>(bif (x7 != i3) then some (-1) else ((ck (i3+1)).bind fun s17=>(rec1 s17 (i4+1))))) else (K1 i3))
def m_laws_heldInt64S_L1 (d0:List Int) (K1:Int→Option Int):Nat→Int→Int→Option Int
  |0,_,_=>none
  |g+1,i3,i4=>m_laws_heldInt64S_B1 d0 (m_laws_heldInt64S_L1 d0 K1 g) K1 i3 i4
def m_laws_heldInt64S (d0:List Int) (d1:Int):Option Int:=
  (m_laws_heldInt64S_L1 d0 m_laws_heldInt64S_A1 (d0.length+1) d1 0)
set_option maxHeartbeats 2000000 in
theorem c_m_laws_heldInt64S (d0:List Int) (d1:Int) (r:Int) (hm:m_laws_heldInt64S d0 d1=some r) (v0:Value) (w:World) (hv0:Sl intRd 1 w v0 d0) :
    Calls Tryz.prog 53 #[v0,.int .i64 d1] w fun e w'=>e=.returned (.int .i64 r)∧Below w.heap.size w w':=by
  obtain ⟨Aa0,na0,ca0,rfl,ha0,ra0⟩:=hv0
  have ea0:=ha0.len; subst ea0
  have qa0:=len_le ra0
  have T:=Below.refl w.heap.size w
  unfold m_laws_heldInt64S at hm
  refine enter 21 Tryz.func53 rfl rfl rfl ?_
  intro f hf
  have s0:f 0=.slice Aa0 d0.length ca0:=hf 0 _ rfl
  have s1:f 1=.int .i64 d1:=hf 1 _ rfl
  refine wp_seq<|wp_rs rfl<|RQ.y rfl (Y.assign (v:=.int .i64 0) rfl)<|RQ.nil<|then_n<|wp_seq<|wp_seq<|wp_rs rfl<|RQ.y rfl (Y.assign (v:=.int .i64 0) rfl)<|RQ.nil<|then_n<|wp_block ?_
  obtain ⟨K1,hK1,hm⟩ :∃K,K=m_laws_heldInt64S_A1∧m_laws_heldInt64S_L1 d0 K (d0.length+1) d1 0=some r:=⟨_,rfl,hm⟩
  refine wp_loopX (fun g f w'=>∃(i3:Int) (i4:Int),f 0=.slice Aa0 d0.length ca0∧f 1=.int .i64 i3∧f 5=.int .i64 i4∧0≤i4∧Below w.heap.size w w'∧m_laws_heldInt64S_L1 d0 K1 g i3 i4=some r) 0 (fun f w'=>∃(i1:Int),f 1=.int .i64 i1∧Below w.heap.size w w'∧m_laws_heldInt64S_A1 i1=some r) (d0.length+1) ⟨d1,0,s0,s1,rfl,(by omega),T,hm⟩ ?_ ?_
  ·rintro f w2 ⟨i1,s1_1x,T,hm⟩
   unfold m_laws_heldInt64S_A1 at hm
   refine blk_hit (then_n ?_)
   refine wp_seq<|wp_rs rfl<|RQ.y rfl (Y.move (v:=.int .i64 i1) s1_1x)<|RQ.y rfl (Y.assign (v:=.int .i64 i1) rfl)<|RQ.nil<|then_n<|wp_ret ?_
   obtain rfl:=sj hm
   exact (ret1 rfl rfl rfl ⟨rfl,T⟩)
  rintro g f w5 ⟨i3,i4,s0_1,s1_1,s5_1,nn5_1,T,hm⟩
  rcases g with _|g
  ·simp only [m_laws_heldInt64S_L1] at hm; cases hm
  obtain ⟨rec1,hrec1,hm⟩ :∃z,z=m_laws_heldInt64S_L1 d0 K1 g∧m_laws_heldInt64S_B1 d0 z K1 i3 i4=some r:=⟨_,rfl,hm⟩
  unfold m_laws_heldInt64S_B1 at hm
  refine wp_seq<|wp_seq<|wp_rs rfl<|RQ.y rfl (Y.move (v:=.int .i64 i4) s5_1)<|RQ.y rfl (Y.move (v:=.slice Aa0 d0.length ca0) s0_1)<|RQ.y rfl (Y.len (by kernel_rfl) rfl)<|RQ.y rfl (Y.binI (v:=.bool (decide (i4 < (d0.length:Int)))) rfl rfl rfl)<|RQ.nil<|then_n ?_
  rcases bcases (decide (i4 < (d0.length:Int))) with c6|c6
  ·replace hm:=cF c6 hm
   have pc6:=of_decide_eq_false c6
   refine cond_f rfl (vb rfl c6)<|wp_exit ?_
   exact (then_x (then_x (hit_x ⟨_,rfl,⟨i3,s1_1,T,(by rw [hK1] at hm; exact hm)⟩⟩)))
  replace hm:=cT c6 hm
  have pc6:=of_decide_eq_true c6
  refine cond_t rfl (vb rfl c6)<|wp_skip<|then_n<|wp_seq<|wp_block<|wp_seq<|wp_seq<|wp_rs rfl<|RQ.y rfl (Y.move (v:=.slice Aa0 d0.length ca0) s0_1)<|RQ.y rfl (Y.move (v:=.int .i64 i4) s5_1) ?_
  obtain ⟨x7,hx10,hm⟩:=bnd hm
  obtain ⟨k8,hk11,hl12,hx10⟩:=getI_some hx10
  obtain ⟨b14,o15,rfl,hbb14⟩:=ha0.addr (by omega)
  obtain ⟨cs9,hRcs9,hc13⟩:=ha0.el hx10
  have hScs9:=hRcs9
  obtain rfl:=hRcs9
  refine RQ.y rfl (Y.indexAddr (m:=k8) (sz:=1) rfl rfl hk11 hl12 (by kernel_rfl))<|RQ.y rfl (Y.load (v:=.int .i64 x7) rfl (by kernel_rfl) (eqC (cellT T (hc13 0 _ rfl))))<|RQ.y rfl (Y.move (v:=.int .i64 i3) s1_1)<|RQ.y rfl (Y.binI (v:=.bool (x7 != i3)) rfl rfl rfl)<|RQ.nil<|then_n ?_
  rcases bcases (x7 != i3) with c16|c16
  ·replace hm:=cF c16 hm
   refine cond_f rfl (vb rfl c16)<|wp_skip<|then_n<|wp_rs rfl<|RQ.y rfl (Y.move (v:=.int .i64 i3) s1_1) ?_
   obtain ⟨s17,ks17,hm⟩:=bnd hm
   replace ks17:=ck_some ks17
   refine RQ.y rfl (Y.binI (v:=.int .i64 s17) rfl rfl (by rw [binI_add ks17.2,ks17.1]))<|RQ.y rfl (Y.assign (v:=.int .i64 s17) rfl)<|RQ.nil ?_
   refine blk_n (then_n ?_)
   refine wp_rs rfl<|RQ.y rfl (Y.move (v:=.int .i64 i4) s5_1)<|RQ.y rfl (Y.binI rfl rfl (binI_add (m:=i4) (by omega)))<|RQ.y rfl (Y.assign (v:=.int .i64 (i4+1)) rfl)<|RQ.nil ?_
   exact (then_n ⟨g,_,Nat.lt_succ_self _,rfl,⟨s17,(i4+1),s0_1,rfl,rfl,(by omega),T,(by rw [← hrec1]; exact hm)⟩⟩)
  replace hm:=cT c16 hm
  refine cond_t rfl (vb rfl c16)<|wp_seq<|wp_rs rfl<|RQ.y rfl (Y.assign (v:=.int .i64 (-1)) rfl)<|RQ.nil<|then_n<|wp_ret ?_
  obtain rfl:=sj hm
  exact (then_r (blk_r (then_r (then_r (hit_r (blk_r (then_r (ret1 rfl rfl rfl ⟨rfl,T⟩))))))))
def m_laws_heldPortS_A1 (i1:Int):Option Int:=
  some i1
def m_laws_heldPortS_B1 (d0:List DPort) (rec1:Int→Int→Option Int) (K1:Int→Option Int) (i3:Int) (i4:Int):Option Int:=
  (bif (decide (i4 < (d0.length:Int))) then ((getI d0 i4).bind fun x7=>(bif (x7.agent != i3) then some (-1) else ((ck (i3+1)).bind fun s17=>((getI d0 i4).bind fun x18=>(bif (x18.slot != s17) then some (-1) else ((ck (s17+1)).bind fun s26=>(rec1 s26 (i4+1)))))))) else (K1 i3))
def m_laws_heldPortS_L1 (d0:List DPort) (K1:Int→Option Int):Nat→Int→Int→Option Int
  |0,_,_=>none
  |g+1,i3,i4=>m_laws_heldPortS_B1 d0 (m_laws_heldPortS_L1 d0 K1 g) K1 i3 i4
def m_laws_heldPortS (d0:List DPort) (d1:Int):Option Int:=
  (m_laws_heldPortS_L1 d0 m_laws_heldPortS_A1 (d0.length+1) d1 0)
set_option maxHeartbeats 2000000 in
theorem c_m_laws_heldPortS (d0:List DPort) (d1:Int) (r:Int) (hm:m_laws_heldPortS d0 d1=some r) (v0:Value) (w:World) (hv0:Sl portRd 2 w v0 d0) :
    Calls Tryz.prog 54 #[v0,.int .i64 d1] w fun e w'=>e=.returned (.int .i64 r)∧Below w.heap.size w w':=by
  obtain ⟨Aa0,na0,ca0,rfl,ha0,ra0⟩:=hv0
  have ea0:=ha0.len; subst ea0
  have qa0:=len_le ra0
  have T:=Below.refl w.heap.size w
  unfold m_laws_heldPortS at hm
  refine enter 31 Tryz.func54 rfl rfl rfl ?_
  intro f hf
  have s0:f 0=.slice Aa0 d0.length ca0:=hf 0 _ rfl
  have s1:f 1=.int .i64 d1:=hf 1 _ rfl
  refine wp_seq<|wp_rs rfl<|RQ.y rfl (Y.assign (v:=.int .i64 0) rfl)<|RQ.nil<|then_n<|wp_seq<|wp_seq<|wp_rs rfl<|RQ.y rfl (Y.assign (v:=.int .i64 0) rfl)<|RQ.nil<|then_n<|wp_block ?_
  obtain ⟨K1,hK1,hm⟩ :∃K,K=m_laws_heldPortS_A1∧m_laws_heldPortS_L1 d0 K (d0.length+1) d1 0=some r:=⟨_,rfl,hm⟩
  refine wp_loopX (fun g f w'=>∃(i3:Int) (i4:Int),f 0=.slice Aa0 d0.length ca0∧f 1=.int .i64 i3∧f 5=.int .i64 i4∧0≤i4∧Below w.heap.size w w'∧m_laws_heldPortS_L1 d0 K1 g i3 i4=some r) 0 (fun f w'=>∃(i1:Int),f 1=.int .i64 i1∧Below w.heap.size w w'∧m_laws_heldPortS_A1 i1=some r) (d0.length+1) ⟨d1,0,s0,s1,rfl,(by omega),T,hm⟩ ?_ ?_
  ·rintro f w2 ⟨i1,s1_1x,T,hm⟩
   unfold m_laws_heldPortS_A1 at hm
   refine blk_hit (then_n ?_)
   refine wp_seq<|wp_rs rfl<|RQ.y rfl (Y.move (v:=.int .i64 i1) s1_1x)<|RQ.y rfl (Y.assign (v:=.int .i64 i1) rfl)<|RQ.nil<|then_n<|wp_ret ?_
   obtain rfl:=sj hm
   exact (ret1 rfl rfl rfl ⟨rfl,T⟩)
  rintro g f w5 ⟨i3,i4,s0_1,s1_1,s5_1,nn5_1,T,hm⟩
  rcases g with _|g
  ·simp only [m_laws_heldPortS_L1] at hm; cases hm
  obtain ⟨rec1,hrec1,hm⟩ :∃z,z=m_laws_heldPortS_L1 d0 K1 g∧m_laws_heldPortS_B1 d0 z K1 i3 i4=some r:=⟨_,rfl,hm⟩
  unfold m_laws_heldPortS_B1 at hm
  refine wp_seq<|wp_seq<|wp_rs rfl<|RQ.y rfl (Y.move (v:=.int .i64 i4) s5_1)<|RQ.y rfl (Y.move (v:=.slice Aa0 d0.length ca0) s0_1)<|RQ.y rfl (Y.len (by kernel_rfl) rfl)<|RQ.y rfl (Y.binI (v:=.bool (decide (i4 < (d0.length:Int)))) rfl rfl rfl)<|RQ.nil<|then_n ?_
  rcases bcases (decide (i4 < (d0.length:Int))) with c6|c6
  ·replace hm:=cF c6 hm
   have pc6:=of_decide_eq_false c6
   refine cond_f rfl (vb rfl c6)<|wp_exit ?_
   exact (then_x (then_x (hit_x ⟨_,rfl,⟨i3,s1_1,T,(by rw [hK1] at hm; exact hm)⟩⟩)))
  replace hm:=cT c6 hm
  have pc6:=of_decide_eq_true c6
  refine cond_t rfl (vb rfl c6)<|wp_skip<|then_n<|wp_seq<|wp_block<|wp_seq<|wp_seq<|wp_rs rfl<|RQ.y rfl (Y.move (v:=.slice Aa0 d0.length ca0) s0_1)<|RQ.y rfl (Y.move (v:=.int .i64 i4) s5_1) ?_
  obtain ⟨x7,hx10,hm⟩:=bnd hm
  obtain ⟨k8,hk11,hl12,hx10⟩:=getI_some hx10
  obtain ⟨b14,o15,rfl,hbb14⟩:=ha0.addr (by omega)
  obtain ⟨cs9,hRcs9,hc13⟩:=ha0.el hx10
  have hScs9:=hRcs9
  obtain rfl:=hRcs9
  refine RQ.y rfl (Y.indexAddr (m:=k8) (sz:=2) rfl rfl hk11 hl12 (by kernel_rfl))<|RQ.y rfl (Y.fieldAddr (off:=0) rfl (by kernel_rfl))<|RQ.y rfl (Y.load (v:=.int .i64 x7.agent) rfl (by kernel_rfl) (eqC (cellT T (hc13 0 _ rfl))))<|RQ.y rfl (Y.move (v:=.int .i64 i3) s1_1)<|RQ.y rfl (Y.binI (v:=.bool (x7.agent != i3)) rfl rfl rfl)<|RQ.nil<|then_n ?_
  rcases bcases (x7.agent != i3) with c16|c16
  ·replace hm:=cF c16 hm
   refine cond_f rfl (vb rfl c16)<|wp_skip<|then_n<|wp_seq<|wp_rs rfl<|RQ.y rfl (Y.move (v:=.int .i64 i3) s1_1) ?_
   obtain ⟨s17,ks17,hm⟩:=bnd hm
   replace ks17:=ck_some ks17
   refine RQ.y rfl (Y.binI (v:=.int .i64 s17) rfl rfl (by rw [binI_add ks17.2,ks17.1]))<|RQ.y rfl (Y.assign (v:=.int .i64 s17) rfl)<|RQ.nil<|then_n<|wp_seq<|wp_seq<|wp_rs rfl<|RQ.y rfl (Y.move (v:=.slice (some ⟨b14,o15,none⟩) d0.length ca0) s0_1)<|RQ.y rfl (Y.move (v:=.int .i64 i4) s5_1) ?_
   obtain ⟨x18,hx21,hm⟩:=bnd hm
   obtain ⟨k19,hk22,hl23,hx21⟩:=getI_some hx21
   obtain ⟨cs20,hRcs20,hc24⟩:=ha0.el hx21
   have hScs20:=hRcs20
   obtain rfl:=hRcs20
   refine RQ.y rfl (Y.indexAddr (m:=k19) (sz:=2) rfl rfl hk22 hl23 (by kernel_rfl))<|RQ.y rfl (Y.fieldAddr (off:=1) rfl (by kernel_rfl))<|RQ.y rfl (Y.load (v:=.int .i64 x18.slot) rfl (by kernel_rfl) (eqC (cellT T (hc24 1 _ rfl))))<|RQ.y rfl (Y.move (v:=.int .i64 s17) rfl)<|RQ.y rfl (Y.binI (v:=.bool (x18.slot != s17)) rfl rfl rfl)<|RQ.nil<|then_n ?_
   rcases bcases (x18.slot != s17) with c25|c25
   ·replace hm:=cF c25 hm
    refine cond_f rfl (vb rfl c25)<|wp_skip<|then_n<|wp_rs rfl<|RQ.y rfl (Y.move (v:=.int .i64 s17) rfl) ?_
    obtain ⟨s26,ks26,hm⟩:=bnd hm
    replace ks26:=ck_some ks26
    refine RQ.y rfl (Y.binI (v:=.int .i64 s26) rfl rfl (by rw [binI_add ks26.2,ks26.1]))<|RQ.y rfl (Y.assign (v:=.int .i64 s26) rfl)<|RQ.nil ?_
    refine blk_n (then_n ?_)
    refine wp_rs rfl<|RQ.y rfl (Y.move (v:=.int .i64 i4) s5_1)<|RQ.y rfl (Y.binI rfl rfl (binI_add (m:=i4) (by omega)))<|RQ.y rfl (Y.assign (v:=.int .i64 (i4+1)) rfl)<|RQ.nil ?_
    exact (then_n ⟨g,_,Nat.lt_succ_self _,rfl,⟨s26,(i4+1),s0_1,rfl,rfl,(by omega),T,(by rw [← hrec1]; exact hm)⟩⟩)
   replace hm:=cT c25 hm
   refine cond_t rfl (vb rfl c25)<|wp_seq<|wp_rs rfl<|RQ.y rfl (Y.assign (v:=.int .i64 (-1)) rfl)<|RQ.nil<|then_n<|wp_ret ?_
   obtain rfl:=sj hm
   exact (then_r (blk_r (then_r (then_r (hit_r (blk_r (then_r (ret1 rfl rfl rfl ⟨rfl,T⟩))))))))
  replace hm:=cT c16 hm
  refine cond_t rfl (vb rfl c16)<|wp_seq<|wp_rs rfl<|RQ.y rfl (Y.assign (v:=.int .i64 (-1)) rfl)<|RQ.nil<|then_n<|wp_ret ?_
  obtain rfl:=sj hm
  exact (then_r (blk_r (then_r (then_r (hit_r (blk_r (then_r (ret1 rfl rfl rfl ⟨rfl,T⟩))))))))
def m_laws_heldAgentS_A1 (i1:Int):Option Int:=
  some i1
def m_laws_heldAgentS_B1 (d0:List DAgent) (rec1:Int→Int→Option Int) (K1:Int→Option Int) (i3:Int) (i4:Int):Option Int:=
  (bif (decide (i4 < (d0.length:Int))) then ((getI d0 i4).bind fun x7=>(bif (x7.kind != i3) then some (-1) else ((ck (i3+1)).bind fun s19=>((getI d0 i4).bind fun x20=>(bif (x20.level != s19) then some (-1) else ((ck (s19+1)).bind fun s30=>((getI d0 i4).bind fun x31=>(bif (x31.value != s30) then some (-1) else ((ck (s30+1)).bind fun s41=>((getI d0 i4).bind fun x42=>((m_laws_heldInt64S x42.data s41).bind fun y51=>(bif (decide (y51 < 0)) then some (-1) else ((getI d0 i4).bind fun x56=>((m_laws_heldPortS x56.ports y51).bind fun y65=>(bif (decide (y65 < 0)) then some (-1) else (rec1 y65 (i4+1))))))))))))))))) else (K1 i3))
def m_laws_heldAgentS_L1 (d0:List DAgent) (K1:Int→Option Int):Nat→Int→Int→Option Int
  |0,_,_=>none
  |g+1,i3,i4=>m_laws_heldAgentS_B1 d0 (m_laws_heldAgentS_L1 d0 K1 g) K1 i3 i4
def m_laws_heldAgentS (d0:List DAgent) (d1:Int):Option Int:=
  (m_laws_heldAgentS_L1 d0 m_laws_heldAgentS_A1 (d0.length+1) d1 0)
set_option maxHeartbeats 2000000 in
theorem c_m_laws_heldAgentS (d0:List DAgent) (d1:Int) (r:Int) (hm:m_laws_heldAgentS d0 d1=some r) (v0:Value) (w:World) (hv0:Sl agentRd 5 w v0 d0) :
    Calls Tryz.prog 26 #[v0,.int .i64 d1] w fun e w'=>e=.returned (.int .i64 r)∧Below w.heap.size w w':=by
  obtain ⟨Aa0,na0,ca0,rfl,ha0,ra0⟩:=hv0
  have ea0:=ha0.len; subst ea0
  have qa0:=len_le ra0
  have T:=Below.refl w.heap.size w
  unfold m_laws_heldAgentS at hm
  refine enter 58 Tryz.func26 rfl rfl rfl ?_
  intro f hf
  have s0:f 0=.slice Aa0 d0.length ca0:=hf 0 _ rfl
  have s1:f 1=.int .i64 d1:=hf 1 _ rfl
  refine wp_seq<|wp_rs rfl<|RQ.y rfl (Y.assign (v:=.int .i64 0) rfl)<|RQ.nil<|then_n<|wp_seq<|wp_seq<|wp_rs rfl<|RQ.y rfl (Y.assign (v:=.int .i64 0) rfl)<|RQ.nil<|then_n<|wp_block ?_
  obtain ⟨K1,hK1,hm⟩ :∃K,K=m_laws_heldAgentS_A1∧m_laws_heldAgentS_L1 d0 K (d0.length+1) d1 0=some r:=⟨_,rfl,hm⟩
  refine wp_loopX (fun g f w'=>∃(i3:Int) (i4:Int),f 0=.slice Aa0 d0.length ca0∧f 1=.int .i64 i3∧f 5=.int .i64 i4∧0≤i4∧Below w.heap.size w w'∧m_laws_heldAgentS_L1 d0 K1 g i3 i4=some r) 0 (fun f w'=>∃(i1:Int),f 1=.int .i64 i1∧Below w.heap.size w w'∧m_laws_heldAgentS_A1 i1=some r) (d0.length+1) ⟨d1,0,s0,s1,rfl,(by omega),T,hm⟩ ?_ ?_
  ·rintro f w2 ⟨i1,s1_1x,T,hm⟩
   unfold m_laws_heldAgentS_A1 at hm
   refine blk_hit (then_n ?_)
   refine wp_seq<|wp_rs rfl<|RQ.y rfl (Y.move (v:=.int .i64 i1) s1_1x)<|RQ.y rfl (Y.assign (v:=.int .i64 i1) rfl)<|RQ.nil<|then_n<|wp_ret ?_
   obtain rfl:=sj hm
   exact (ret1 rfl rfl rfl ⟨rfl,T⟩)
  rintro g f w5 ⟨i3,i4,s0_1,s1_1,s5_1,nn5_1,T,hm⟩
  rcases g with _|g
  ·simp only [m_laws_heldAgentS_L1] at hm; cases hm
  obtain ⟨rec1,hrec1,hm⟩ :∃z,z=m_laws_heldAgentS_L1 d0 K1 g∧m_laws_heldAgentS_B1 d0 z K1 i3 i4=some r:=⟨_,rfl,hm⟩
  unfold m_laws_heldAgentS_B1 at hm
  refine wp_seq<|wp_seq<|wp_rs rfl<|RQ.y rfl (Y.move (v:=.int .i64 i4) s5_1)<|RQ.y rfl (Y.move (v:=.slice Aa0 d0.length ca0) s0_1)<|RQ.y rfl (Y.len (by kernel_rfl) rfl)<|RQ.y rfl (Y.binI (v:=.bool (decide (i4 < (d0.length:Int)))) rfl rfl rfl)<|RQ.nil<|then_n ?_
  rcases bcases (decide (i4 < (d0.length:Int))) with c6|c6
  ·replace hm:=cF c6 hm
   have pc6:=of_decide_eq_false c6
   refine cond_f rfl (vb rfl c6)<|wp_exit ?_
   exact (then_x (then_x (hit_x ⟨_,rfl,⟨i3,s1_1,T,(by rw [hK1] at hm; exact hm)⟩⟩)))
  replace hm:=cT c6 hm
  have pc6:=of_decide_eq_true c6
  refine cond_t rfl (vb rfl c6)<|wp_skip<|then_n<|wp_seq<|wp_block<|wp_seq<|wp_seq<|wp_rs rfl<|RQ.y rfl (Y.move (v:=.slice Aa0 d0.length ca0) s0_1)<|RQ.y rfl (Y.move (v:=.int .i64 i4) s5_1) ?_
  obtain ⟨x7,hx10,hm⟩:=bnd hm
  obtain ⟨k8,hk11,hl12,hx10⟩:=getI_some hx10
  obtain ⟨b14,o15,rfl,hbb14⟩:=ha0.addr (by omega)
  obtain ⟨cs9,hRcs9,hc13⟩:=ha0.el hx10
  have hScs9:=hRcs9
  obtain ⟨A16,n16,c16,A17,n17,c17,rfl,⟨h16,r16⟩,⟨h17,r17⟩⟩:=hRcs9
  have e16:=h16.len; subst e16
  have q16:=len_le r16
  have e17:=h17.len; subst e17
  have q17:=len_le r17
  refine RQ.y rfl (Y.indexAddr (m:=k8) (sz:=5) rfl rfl hk11 hl12 (by kernel_rfl))<|RQ.y rfl (Y.fieldAddr (off:=0) rfl (by kernel_rfl))<|RQ.y rfl (Y.load (v:=.int .i64 x7.kind) rfl (by kernel_rfl) (eqC (cellT T (hc13 0 _ rfl))))<|RQ.y rfl (Y.move (v:=.int .i64 i3) s1_1)<|RQ.y rfl (Y.binI (v:=.bool (x7.kind != i3)) rfl rfl rfl)<|RQ.nil<|then_n ?_
  rcases bcases (x7.kind != i3) with c18|c18
  ·replace hm:=cF c18 hm
   refine cond_f rfl (vb rfl c18)<|wp_skip<|then_n<|wp_seq<|wp_rs rfl<|RQ.y rfl (Y.move (v:=.int .i64 i3) s1_1) ?_
   obtain ⟨s19,ks19,hm⟩:=bnd hm
   replace ks19:=ck_some ks19
   refine RQ.y rfl (Y.binI (v:=.int .i64 s19) rfl rfl (by rw [binI_add ks19.2,ks19.1]))<|RQ.y rfl (Y.assign (v:=.int .i64 s19) rfl)<|RQ.nil<|then_n<|wp_seq<|wp_seq<|wp_rs rfl<|RQ.y rfl (Y.move (v:=.slice (some ⟨b14,o15,none⟩) d0.length ca0) s0_1)<|RQ.y rfl (Y.move (v:=.int .i64 i4) s5_1) ?_
   obtain ⟨x20,hx23,hm⟩:=bnd hm
   obtain ⟨k21,hk24,hl25,hx23⟩:=getI_some hx23
   obtain ⟨cs22,hRcs22,hc26⟩:=ha0.el hx23
   have hScs22:=hRcs22
   obtain ⟨A27,n27,c27,A28,n28,c28,rfl,⟨h27,r27⟩,⟨h28,r28⟩⟩:=hRcs22
   have e27:=h27.len; subst e27
   have q27:=len_le r27
   have e28:=h28.len; subst e28
   have q28:=len_le r28
   refine RQ.y rfl (Y.indexAddr (m:=k21) (sz:=5) rfl rfl hk24 hl25 (by kernel_rfl))<|RQ.y rfl (Y.fieldAddr (off:=1) rfl (by kernel_rfl))<|RQ.y rfl (Y.load (v:=.int .i64 x20.level) rfl (by kernel_rfl) (eqC (cellT T (hc26 1 _ rfl))))<|RQ.y rfl (Y.move (v:=.int .i64 s19) rfl)<|RQ.y rfl (Y.binI (v:=.bool (x20.level != s19)) rfl rfl rfl)<|RQ.nil<|then_n ?_
   rcases bcases (x20.level != s19) with c29|c29
   ·replace hm:=cF c29 hm
    refine cond_f rfl (vb rfl c29)<|wp_skip<|then_n<|wp_seq<|wp_rs rfl<|RQ.y rfl (Y.move (v:=.int .i64 s19) rfl) ?_
    obtain ⟨s30,ks30,hm⟩:=bnd hm
    replace ks30:=ck_some ks30
    refine RQ.y rfl (Y.binI (v:=.int .i64 s30) rfl rfl (by rw [binI_add ks30.2,ks30.1]))<|RQ.y rfl (Y.assign (v:=.int .i64 s30) rfl)<|RQ.nil<|then_n<|wp_seq<|wp_seq<|wp_rs rfl<|RQ.y rfl (Y.move (v:=.slice (some ⟨b14,o15,none⟩) d0.length ca0) s0_1)<|RQ.y rfl (Y.move (v:=.int .i64 i4) s5_1) ?_
    obtain ⟨x31,hx34,hm⟩:=bnd hm
    obtain ⟨k32,hk35,hl36,hx34⟩:=getI_some hx34
    obtain ⟨cs33,hRcs33,hc37⟩:=ha0.el hx34
    have hScs33:=hRcs33
    obtain ⟨A38,n38,c38,A39,n39,c39,rfl,⟨h38,r38⟩,⟨h39,r39⟩⟩:=hRcs33
    have e38:=h38.len; subst e38
    have q38:=len_le r38
    have e39:=h39.len; subst e39
    have q39:=len_le r39
    refine RQ.y rfl (Y.indexAddr (m:=k32) (sz:=5) rfl rfl hk35 hl36 (by kernel_rfl))<|RQ.y rfl (Y.fieldAddr (off:=2) rfl (by kernel_rfl))<|RQ.y rfl (Y.load (v:=.int .i64 x31.value) rfl (by kernel_rfl) (eqC (cellT T (hc37 2 _ rfl))))<|RQ.y rfl (Y.move (v:=.int .i64 s30) rfl)<|RQ.y rfl (Y.binI (v:=.bool (x31.value != s30)) rfl rfl rfl)<|RQ.nil<|then_n ?_
    rcases bcases (x31.value != s30) with c40|c40
    ·replace hm:=cF c40 hm
     refine cond_f rfl (vb rfl c40)<|wp_skip<|then_n<|wp_seq<|wp_rs rfl<|RQ.y rfl (Y.move (v:=.int .i64 s30) rfl) ?_
     obtain ⟨s41,ks41,hm⟩:=bnd hm
     replace ks41:=ck_some ks41
     refine RQ.y rfl (Y.binI (v:=.int .i64 s41) rfl rfl (by rw [binI_add ks41.2,ks41.1]))<|RQ.y rfl (Y.assign (v:=.int .i64 s41) rfl)<|RQ.nil<|then_n<|wp_seq<|wp_rb rfl<|RQ.y rfl (Y.move (v:=.slice (some ⟨b14,o15,none⟩) d0.length ca0) s0_1)<|RQ.y rfl (Y.move (v:=.int .i64 i4) s5_1) ?_
     obtain ⟨x42,hx45,hm⟩:=bnd hm
     obtain ⟨k43,hk46,hl47,hx45⟩:=getI_some hx45
     obtain ⟨cs44,hRcs44,hc48⟩:=ha0.el hx45
     have hScs44:=hRcs44
     obtain ⟨A49,n49,c49,A50,n50,c50,rfl,⟨h49,r49⟩,⟨h50,r50⟩⟩:=hRcs44
     have e49:=h49.len; subst e49
     have q49:=len_le r49
     have e50:=h50.len; subst e50
     have q50:=len_le r50
     refine RQ.y rfl (Y.indexAddr (m:=k43) (sz:=5) rfl rfl hk46 hl47 (by kernel_rfl))<|RQ.y rfl (Y.fieldAddr (off:=3) rfl (by kernel_rfl))<|RQ.y rfl (Y.load (v:=.slice A49 x42.data.length c49) rfl (by kernel_rfl) (beC (cellT T (hc48 3 _ rfl))))<|RQ.y rfl (Y.move (v:=.int .i64 s41) rfl) ?_
     obtain ⟨y51,e52,hm⟩:=bnd hm
     refine RQ.call rfl (am2 rfl rfl) (by kernel_rfl) (v:=.int .i64 y51) (bel (K:=fun _=>True) fun w' hb'=>(c_m_laws_heldInt64S x42.data s41 _ e52 _ w' (slArg intRd_ok h49 r49 (Tt T hb'))))<|RQ.y rfl (Y.assign (v:=.int .i64 y51) rfl)<|RQ.nil ?_
     intro w53 hb54
     have szw53:=hb54.size
     have T:=Tt T hb54
     refine then_n<|wp_seq<|wp_seq<|wp_rs rfl<|RQ.y rfl (Y.move (v:=.int .i64 y51) rfl)<|RQ.y rfl (Y.binI (v:=.bool (decide (y51 < 0))) rfl rfl rfl)<|RQ.nil<|then_n ?_
     rcases bcases (decide (y51 < 0)) with c55|c55
     ·replace hm:=cF c55 hm
      have pc55:=of_decide_eq_false c55
      refine cond_f rfl (vb rfl c55)<|wp_skip<|then_n<|wp_seq<|wp_rb rfl<|RQ.y rfl (Y.move (v:=.slice (some ⟨b14,o15,none⟩) d0.length ca0) s0_1)<|RQ.y rfl (Y.move (v:=.int .i64 i4) s5_1) ?_
      obtain ⟨x56,hx59,hm⟩:=bnd hm
      obtain ⟨k57,hk60,hl61,hx59⟩:=getI_some hx59
      obtain ⟨cs58,hRcs58,hc62⟩:=ha0.el hx59
      have hScs58:=hRcs58
      obtain ⟨A63,n63,c63,A64,n64,c64,rfl,⟨h63,r63⟩,⟨h64,r64⟩⟩:=hRcs58
      have e63:=h63.len; subst e63
      have q63:=len_le r63
      have e64:=h64.len; subst e64
      have q64:=len_le r64
      refine RQ.y rfl (Y.indexAddr (m:=k57) (sz:=5) rfl rfl hk60 hl61 (by kernel_rfl))<|RQ.y rfl (Y.fieldAddr (off:=4) rfl (by kernel_rfl))<|RQ.y rfl (Y.load (v:=.slice A64 x56.ports.length c64) rfl (by kernel_rfl) (beC (cellT T (hc62 4 _ rfl))))<|RQ.y rfl (Y.move (v:=.int .i64 y51) rfl) ?_
      obtain ⟨y65,e66,hm⟩:=bnd hm
      refine RQ.call rfl (am2 rfl rfl) (by kernel_rfl) (v:=.int .i64 y65) (bel (K:=fun _=>True) fun w' hb'=>(c_m_laws_heldPortS x56.ports y51 _ e66 _ w' (slArg portRd_ok h64 r64 (Tt T hb'))))<|RQ.y rfl (Y.assign (v:=.int .i64 y65) rfl)<|RQ.nil ?_
      intro w67 hb68
      have szw67:=hb68.size
      have T:=Tt T hb68
      refine then_n<|wp_seq<|wp_rs rfl<|RQ.y rfl (Y.move (v:=.int .i64 y65) rfl)<|RQ.y rfl (Y.binI (v:=.bool (decide (y65 < 0))) rfl rfl rfl)<|RQ.nil<|then_n ?_
      rcases bcases (decide (y65 < 0)) with c69|c69
      ·replace hm:=cF c69 hm
       have pc69:=of_decide_eq_false c69
       refine cond_f rfl (vb rfl c69)<|wp_skip ?_
       refine blk_n (then_n ?_)
       refine wp_rs rfl<|RQ.y rfl (Y.move (v:=.int .i64 i4) s5_1)<|RQ.y rfl (Y.binI rfl rfl (binI_add (m:=i4) (by omega)))<|RQ.y rfl (Y.assign (v:=.int .i64 (i4+1)) rfl)<|RQ.nil ?_
       exact (then_n ⟨g,_,Nat.lt_succ_self _,rfl,⟨y65,(i4+1),s0_1,rfl,rfl,(by omega),T,(by rw [← hrec1]; exact hm)⟩⟩)
      replace hm:=cT c69 hm
      have pc69:=of_decide_eq_true c69
      refine cond_t rfl (vb rfl c69)<|wp_seq<|wp_rs rfl<|RQ.y rfl (Y.assign (v:=.int .i64 (-1)) rfl)<|RQ.nil<|then_n<|wp_ret ?_
      obtain rfl:=sj hm
      exact (blk_r (then_r (then_r (hit_r (blk_r (then_r (ret1 rfl rfl rfl ⟨rfl,T⟩)))))))
     replace hm:=cT c55 hm
     have pc55:=of_decide_eq_true c55
     refine cond_t rfl (vb rfl c55)<|wp_seq<|wp_rs rfl<|RQ.y rfl (Y.assign (v:=.int .i64 (-1)) rfl)<|RQ.nil<|then_n<|wp_ret ?_
     obtain rfl:=sj hm
     exact (then_r (blk_r (then_r (then_r (hit_r (blk_r (then_r (ret1 rfl rfl rfl ⟨rfl,T⟩))))))))
    replace hm:=cT c40 hm
    refine cond_t rfl (vb rfl c40)<|wp_seq<|wp_rs rfl<|RQ.y rfl (Y.assign (v:=.int .i64 (-1)) rfl)<|RQ.nil<|then_n<|wp_ret ?_
    obtain rfl:=sj hm
    exact (then_r (blk_r (then_r (then_r (hit_r (blk_r (then_r (ret1 rfl rfl rfl ⟨rfl,T⟩))))))))
   replace hm:=cT c29 hm
   refine cond_t rfl (vb rfl c29)<|wp_seq<|wp_rs rfl<|RQ.y rfl (Y.assign (v:=.int .i64 (-1)) rfl)<|RQ.nil<|then_n<|wp_ret ?_
   obtain rfl:=sj hm
   exact (then_r (blk_r (then_r (then_r (hit_r (blk_r (then_r (ret1 rfl rfl rfl ⟨rfl,T⟩))))))))
  replace hm:=cT c18 hm
  refine cond_t rfl (vb rfl c18)<|wp_seq<|wp_rs rfl<|RQ.y rfl (Y.assign (v:=.int .i64 (-1)) rfl)<|RQ.nil<|then_n<|wp_ret ?_
  obtain rfl:=sj hm
  exact (then_r (blk_r (then_r (then_r (hit_r (blk_r (then_r (ret1 rfl rfl rfl ⟨rfl,T⟩))))))))
def m_laws_heldNet (d0:DNet) (d1:Int):Option Int:=
  ((m_laws_heldAgentS d0.agents d1).bind fun y6=>(bif (decide (y6 < 0)) then some (-1) else some y6))
set_option maxHeartbeats 2000000 in
theorem c_m_laws_heldNet (d0:DNet) (d1:Int) (r:Int) (hm:m_laws_heldNet d0 d1=some r) (v0:Value) (w:World) (hv0:St netRd w v0 d0) :
    Calls Tryz.prog 13 #[v0,.int .i64 d1] w fun e w'=>e=.returned (.int .i64 r)∧Below w.heap.size w w':=by
  obtain ⟨csa0,rfl,⟨A1,n1,c1,rfl,⟨h1,r1⟩⟩⟩:=hv0
  have e1:=h1.len; subst e1
  have q1:=len_le r1
  have T:=Below.refl w.heap.size w
  unfold m_laws_heldNet at hm
  refine enter 12 Tryz.func13 rfl rfl rfl ?_
  intro f hf
  have s0:f 0=.agg #[.slice A1 d0.agents.length c1]:=hf 0 _ rfl
  have s1:f 1=.int .i64 d1:=hf 1 _ rfl
  refine wp_seq<|wp_rl rfl ?_
  refine RL.box rfl s0 (fun w2 B3 hb4 szw2=>?_)
  replace B3:Blk w2 w.heap.size 29 #[.slice A1 d0.agents.length c1]:=B3
  have GB3:w.heap.size≤w.heap.size:=T.size
  have T:=Tt T hb4
  refine RL.y rfl (Y.assign (v:=.int .i64 0) rfl)<|RL.nil<|then_n<|wp_seq<|wp_rb rfl<|RQ.y rfl (Y.fieldAddr (off:=0) rfl (by kernel_rfl))<|RQ.y rfl (Y.load (v:=.slice A1 d0.agents.length c1) rfl (by kernel_rfl) (beC (blkCell B3 (i:=0) rfl)))<|RQ.y rfl (Y.move (v:=.int .i64 d1) s1) ?_
  obtain ⟨y6,e7,hm⟩:=bnd hm
  refine RQ.call rfl (am2 rfl rfl) (by kernel_rfl) (v:=.int .i64 y6) (bel (K:=fun _=>True) fun w' hb'=>(c_m_laws_heldAgentS d0.agents d1 _ e7 _ w' (slArg agentRd_ok h1 r1 (Tt T hb'))))<|RQ.y rfl (Y.assign (v:=.int .i64 y6) rfl)<|RQ.nil ?_
  intro w8 hb9
  have szw8:=hb9.size
  have T:=Tt T hb9
  refine then_n<|wp_seq<|wp_seq<|wp_rs rfl<|RQ.y rfl (Y.move (v:=.int .i64 y6) rfl)<|RQ.y rfl (Y.binI (v:=.bool (decide (y6 < 0))) rfl rfl rfl)<|RQ.nil<|then_n ?_
  rcases bcases (decide (y6 < 0)) with c10|c10
  ·replace hm:=cF c10 hm
   have pc10:=of_decide_eq_false c10
   refine cond_f rfl (vb rfl c10)<|wp_skip<|then_n<|wp_seq<|wp_rs rfl<|RQ.y rfl (Y.move (v:=.int .i64 y6) rfl)<|RQ.y rfl (Y.assign (v:=.int .i64 y6) rfl)<|RQ.nil<|then_n<|wp_ret ?_
   obtain rfl:=sj hm
   exact (ret1 rfl rfl rfl ⟨rfl,T⟩)
  replace hm:=cT c10 hm
  have pc10:=of_decide_eq_true c10
  refine cond_t rfl (vb rfl c10)<|wp_seq<|wp_rs rfl<|RQ.y rfl (Y.assign (v:=.int .i64 (-1)) rfl)<|RQ.nil<|then_n<|wp_ret ?_
  obtain rfl:=sj hm
  exact (then_r (ret1 rfl rfl rfl ⟨rfl,T⟩))
end
section
open Go.RowKit
theorem p_heldI (k n:Nat) (h:k+n≤4611686018427387904):m_laws_heldInt64S (marks k n) (k:Int)=some ((k+n:Nat):Int):=by
  unfold m_laws_heldInt64S
  have hl:=marks_len k n
  have key:=traj (L:=fun g (s:Int × Int)=>m_laws_heldInt64S_L1 (marks k n) m_laws_heldInt64S_A1 g s.1 s.2) (st:=fun i=>(((k+i:Nat):Int),(i:Int))) (n:=n) (r:=some ((k+n:Nat):Int))
    (fun g i hi=>by
      have hx:=marks_get (k:=k) hi
      simp -implicitDefEqProofs only [m_laws_heldInt64S_L1,m_laws_heldInt64S_B1,hl,dlt hi,cond_true,getI_nat hx,Option.bind_some]
      rw [show (((k+i:Nat):Int) != ((k+i:Nat):Int))=false by simp,cond_false,ck_ok (by omega),Option.bind_some]
      simp only [Int.natCast_add,Int.cast_ofNat_Int,Int.add_assoc])
    (fun g=>by simp -implicitDefEqProofs only [m_laws_heldInt64S_L1,m_laws_heldInt64S_B1,hl,dge,cond_false,m_laws_heldInt64S_A1]) (n+1) (Nat.lt_succ_self _)
  rw [hl]
  simpa using key
theorem p_heldP (k n:Nat) (h:k+2 * n≤4611686018427387904):m_laws_heldPortS (marksF mkPort 2 k n) (k:Int)=some ((k+2 * n:Nat):Int):=by
  unfold m_laws_heldPortS
  have hl:=marksF_len mkPort 2 k n
  have key:=traj (L:=fun g (s:Int × Int)=>m_laws_heldPortS_L1 (marksF mkPort 2 k n) m_laws_heldPortS_A1 g s.1 s.2) (st:=fun i=>(((k+2 * i:Nat):Int),(i:Int))) (n:=n) (r:=some ((k+2 * n:Nat):Int))
    (fun g i hi=>by
      have hx:=marksF_get (f:=mkPort) (s:=2) (k:=k) hi
      simp -implicitDefEqProofs only [m_laws_heldPortS_L1,m_laws_heldPortS_B1,hl,dlt hi,cond_true,getI_nat hx,Option.bind_some,mkPort]
      rw [show (((k+2 * i:Nat):Int) != ((k+2 * i:Nat):Int))=false by simp,cond_false,ck_ok (by omega),Option.bind_some,show (((k+2 * i:Nat):Int)+1 != ((k+2 * i:Nat):Int)+1)=false by simp,cond_false,ck_ok (by omega),Option.bind_some]
      have e:((k+2 * i:Nat):Int)+1+1=((k+2 * (i+1):Nat):Int):=by omega
      rw [e]; rfl)
    (fun g=>by simp -implicitDefEqProofs only [m_laws_heldPortS_L1,m_laws_heldPortS_B1,hl,dge,cond_false,m_laws_heldPortS_A1]) (n+1) (Nat.lt_succ_self _)
  rw [hl]
  simpa using key
theorem p_heldA (k:Nat) (xs:List DAgent) (hs:szAgentS xs≤1048576) (hk:k≤4294967296):m_laws_heldAgentS (markA k xs) (k:Int)=some ((k+cntL cntA xs:Nat):Int):=by
  unfold m_laws_heldAgentS
  have hl:(markA k xs).length=xs.length:=mkL_len _ _
  have hc:=cntL_agents xs
  have key:=traj (L:=fun g (s:Int × Int)=>m_laws_heldAgentS_L1 (markA k xs) m_laws_heldAgentS_A1 g s.1 s.2) (st:=fun i=>(((k+cntL cntA (xs.take i):Nat):Int),(i:Int))) (n:=xs.length) (r:=some ((k+cntL cntA xs:Nat):Int))
    (fun g i hi=>by
      have hx0:=List.getElem?_eq_getElem hi
      have hx:(markA k xs)[i]? = some (mkAgent (k+cntL cntA (xs.take i)) xs[i]):=mkL_get hx0
      have hsz:=szAgent_mem hx0 hs
      have hct:=cntL_take (cnt:=cntA) hx0
      have hcx:cntA xs[i] = 3+xs[i].data.length+2 * xs[i].ports.length:=rfl
      have hcm:=cntL_le (cnt:=cntA) xs (i+1)
      rw [hct,← Nat.add_assoc]
      have hm:k+cntL cntA (xs.take i)≤4298440256∧k+cntL cntA (xs.take i)+cntA xs[i]≤4298440256:=by omega
      clear hct hcm hx0
      generalize k+cntL cntA (xs.take i)=m at *
      generalize xs[i] = x at *
      have e1:=p_heldI (m+3) x.data.length (by omega)
      have e2:=p_heldP (m+3+x.data.length) x.ports.length (by omega)
      simp -implicitDefEqProofs only [m_laws_heldAgentS_L1,m_laws_heldAgentS_B1,hl,dlt hi,cond_true,getI_nat hx,Option.bind_some,mkAgent]
      rw [show ((m:Int) != (m:Int))=false by simp,cond_false,ck_ok (by omega),Option.bind_some,show (((m+1:Nat):Int) != (m:Int)+1)=false by simp,cond_false,ck_ok (by omega),Option.bind_some,
        show (((m+2:Nat):Int) != (m:Int)+1+1)=false by simp; omega,cond_false,ck_ok (by omega),Option.bind_some,show (m:Int)+1+1+1=((m+3:Nat):Int) by omega,e1,Option.bind_some,
        show decide (((m+3+x.data.length:Nat):Int) < 0)=false by simp; omega,cond_false,e2,Option.bind_some,show decide (((m+3+x.data.length+2 * x.ports.length:Nat):Int) < 0)=false by simp; omega,cond_false]
      have e:((m+3+x.data.length+2 * x.ports.length:Nat):Int)=(((m:Nat)+cntA x:Nat):Int):=by omega
      rw [e]; simp only [Int.natCast_add,Int.cast_ofNat_Int,Int.add_assoc] <;> rfl)
    (fun g=>by
      simp -implicitDefEqProofs only [m_laws_heldAgentS_L1,m_laws_heldAgentS_B1,hl,dge,cond_false,m_laws_heldAgentS_A1,List.take_length]) (xs.length+1) (Nat.lt_succ_self _)
  rw [hl]
  simpa [cntL] using key
theorem heldNet_q (v:Value) (x:DNet) (w:World) (k:Int) {B:Nat} (h:RdT netRd w B v ⟨markA k.toNat x.agents⟩) (hB:B≤w.heap.size) (hs:szNet x≤1048576) (h0:0≤k) (hk:k≤1048576) :
    Calls Tryz.prog 13 #[v,.int .i64 k] w fun e w'=>e=.returned (.int .i64 ((k.toNat+cntL cntA x.agents:Nat):Int))∧Below w.heap.size w w':=by
  obtain ⟨k0,rfl⟩:=Int.eq_ofNat_of_zero_le h0
  refine c_m_laws_heldNet _ _ _ ?_ v w (h.more netRd_ok hB)
  unfold m_laws_heldNet
  rw [Int.toNat_natCast]
  simp only
  rw [p_heldA k0 x.agents hs (by omega),Option.bind_some]
  rw [show decide (((k0+cntL cntA x.agents:Nat):Int) < 0)=false by simp; omega,cond_false]
theorem heldNet_r (v:Value) (x:DNet) (w:World) (k:Int) (m:Nat) (em:m=k.toNat+cntL cntA x.agents) {B:Nat} (h:RdT netRd w B v ⟨markA k.toNat x.agents⟩) (hB:B≤w.heap.size) (hs:szNet x≤1048576) (h0:0≤k) (hk:k≤1048576) :
    Calls Tryz.prog 13 #[v,.int .i64 k] w fun e w'=>e=.returned (.int .i64 (m:Int))∧Below w.heap.size w w':=by
  subst em; exact heldNet_q v x w k h hB hs h0 hk
theorem markNet_r (v:Value) (x:DNet) (w:World) (k:Int) (lo hi:Nat) (m:Nat) (em:m=k.toNat+cntL cntA x.agents) (h:OwT netOw w v x lo hi) (hh:hi≤w.heap.size) (hs:szNet x≤1048576) (h0:0≤k) (hk:k≤16777216) :
    Calls Tryz.prog 12 #[v,.int .i64 k] w fun e w'=>e=.returned (.int .i64 (m:Int))∧∃wb,Below w.heap.size w wb∧wb.heap.size=w'.heap.size∧OnlyIn lo hi wb w'∧OwT netOw w' v ⟨markA k.toNat x.agents⟩ lo hi:=by
  subst em; exact markNet_q v x w k lo hi h hh hs h0 hk
end
section
open Go.RowKit
set_option maxRecDepth 100000
set_option maxHeartbeats 8000000 in
theorem walk_ReadNet (w:World) (s:ByteArray) (hW:WR w) :
    Calls Tryz.prog 4 #[.string s] w fun e w'=>e=.returned (.bool true)∧Below w.heap.size w w':=by
  by_cases ds:s.size≤1048576
  case neg=>
   have T:=Below.refl w.heap.size w
   go_enter Tryz.func4,Tryz.ntmps4
   go_wp2_with fail
   go_ret
   exact ⟨rfl,T⟩
  have sr:=readNet_small s
  have T:=Below.refl w.heap.size w
  go_enter Tryz.func4,Tryz.ntmps4
  go_wp2_with fail
  refine (specReadNet_v  s _    (WR.below hW T) ds).mono ?_
  rintro e w1 ⟨⟨u2,rfl,G1⟩,b1⟩
  have z1:=b1.size
  have T:=T.trans (b1.mono (by omega))
  obtain ⟨l4A0,l4n0,l4c0,rfl⟩ :∃l4A0 l4n0 l4c0,u2=.agg #[.slice l4A0 l4n0 l4c0]:=by obtain ⟨cs,bs,rfl,⟨A0,n0,c0,b0,rfl,_⟩,_⟩:=G1; exact ⟨A0,n0,c0,rfl⟩
  have b2:Below w1.heap.size w1 (w1.alloc (.cells #[.slice l4A0 l4n0 l4c0] 29)):=(Below.refl _ _).alloc (Nat.le_refl _) _
  have z2:(w1.alloc (.cells #[.slice l4A0 l4n0 l4c0] 29)).heap.size=w1.heap.size+1:=World.size_alloc _ _
  have G1:=G1.below netOw_ok b2 (by omega)
  have T:=T.trans (b2.mono (by omega))
  have X3:Blk (w1.alloc (.cells #[.slice l4A0 l4n0 l4c0] 29)) w1.heap.size 29 #[.slice l4A0 l4n0 l4c0]:=Blk.new _ _ _
  have gX3:=X3.cell
  go_wp2_with fail
  refine (implReadNet_v  s _    (WR.below hW T) ds).mono ?_
  rintro e w3 ⟨⟨u6,rfl,G5⟩,b3⟩
  have z3:=b3.size
  have X3:=X3.below b3 (by omega)
  have G1:=G1.below netOw_ok b3 (by omega)
  have T:=T.trans (b3.mono (by omega))
  clear gX3
  have gX3:=X3.cell
  obtain ⟨l8A0,l8n0,l8c0,rfl⟩ :∃l8A0 l8n0 l8c0,u6=.agg #[.slice l8A0 l8n0 l8c0]:=by obtain ⟨cs,bs,rfl,⟨A0,n0,c0,b0,rfl,_⟩,_⟩:=G5; exact ⟨A0,n0,c0,rfl⟩
  have b4:Below w3.heap.size w3 (w3.alloc (.cells #[.slice l8A0 l8n0 l8c0] 29)):=(Below.refl _ _).alloc (Nat.le_refl _) _
  have z4:(w3.alloc (.cells #[.slice l8A0 l8n0 l8c0] 29)).heap.size=w3.heap.size+1:=World.size_alloc _ _
  have X3:=X3.below b4 (by omega)
  have G1:=G1.below netOw_ok b4 (by omega)
  have G5:=G5.below netOw_ok b4 (by omega)
  have T:=T.trans (b4.mono (by omega))
  have X7:Blk (w3.alloc (.cells #[.slice l8A0 l8n0 l8c0] 29)) w3.heap.size 29 #[.slice l8A0 l8n0 l8c0]:=Blk.new _ _ _
  clear gX3
  have gX3:=X3.cell
  have gX7:=X7.cell
  go_wp2_with fail
  refine (eqNet_v _ _ _ _ _ (G5.reads (netOw_reads ((w3.alloc (.cells #[.slice l8A0 l8n0 l8c0] 29))).heap.size) (by omega)) (G1.reads (netOw_reads ((w3.alloc (.cells #[.slice l8A0 l8n0 l8c0] 29))).heap.size) (by omega)) (Nat.le_refl _) (Nat.le_refl _)).mono ?_
  rintro e w5 ⟨rfl,b5⟩
  have z5:=b5.size
  have X3:=X3.below b5 (by omega)
  have X7:=X7.below b5 (by omega)
  have G1:=G1.below netOw_ok b5 (by omega)
  have G5:=G5.below netOw_ok b5 (by omega)
  have T:=T.trans (b5.mono (by omega))
  clear gX3
  clear gX7
  have gX3:=X3.cell
  have gX7:=X7.cell
  go_wp2_with fail
  obtain ⟨mq,emq⟩ :∃m:Nat,m=(1:Int).toNat+cntL cntA ((readNet s).1).agents:=⟨_,rfl⟩
  have hmq:decide ((mq:Int) < 0)=false:=by simp
  refine (markNet_r _ _ _ _ _ _ mq emq G5 (by omega) sr (by omega) (by omega)).mono ?_
  rintro e w6 ⟨rfl,wb6,b6,e6,b7,G5⟩
  have z6:=b6.size
  have X3:=X3.below b6 (by omega)
  have X7:=X7.below b6 (by omega)
  have G1:=G1.below netOw_ok b6 (by omega)
  have T:=T.trans (b6.mono (by omega))
  have z7:=Nat.le_of_eq e6
  have y7:=Nat.le_of_eq e6.symm
  have X3:=X3.only b7 (by omega)
  have X7:=X7.only b7 (by omega)
  have G1:=G1.only netOw_ok b7 (by omega)
  have T:=T.trans (b7.below.mono (by omega))
  clear gX3
  clear gX7
  have gX3:=X3.cell
  have gX7:=X7.cell
  go_wp2_with fail
  refine (heldNet_r _ ((readNet s).1) _ _ mq emq (G5.reads (netOw_reads (w6).heap.size) (by omega)) (Nat.le_refl _) sr (by omega) (by omega)).mono ?_
  rintro e w8 ⟨rfl,b8⟩
  have z8:=b8.size
  have X3:=X3.below b8 (by omega)
  have X7:=X7.below b8 (by omega)
  have G1:=G1.below netOw_ok b8 (by omega)
  have G5:=G5.below netOw_ok b8 (by omega)
  have T:=T.trans (b8.mono (by omega))
  clear gX3
  clear gX7
  have gX3:=X3.cell
  have gX7:=X7.cell
  go_wp2_with fail
  refine (implReadNet_v  s _    (WR.below hW T) ds).mono ?_
  rintro e w9 ⟨⟨u10,rfl,G9⟩,b9⟩
  have z9:=b9.size
  have X3:=X3.below b9 (by omega)
  have X7:=X7.below b9 (by omega)
  have G1:=G1.below netOw_ok b9 (by omega)
  have G5:=G5.below netOw_ok b9 (by omega)
  have T:=T.trans (b9.mono (by omega))
  clear gX3
  clear gX7
  have gX3:=X3.cell
  have gX7:=X7.cell
  obtain ⟨l12A0,l12n0,l12c0,rfl⟩ :∃l12A0 l12n0 l12c0,u10=.agg #[.slice l12A0 l12n0 l12c0]:=by obtain ⟨cs,bs,rfl,⟨A0,n0,c0,b0,rfl,_⟩,_⟩:=G9; exact ⟨A0,n0,c0,rfl⟩
  have b10:Below w9.heap.size w9 (w9.alloc (.cells #[.slice l12A0 l12n0 l12c0] 29)):=(Below.refl _ _).alloc (Nat.le_refl _) _
  have z10:(w9.alloc (.cells #[.slice l12A0 l12n0 l12c0] 29)).heap.size=w9.heap.size+1:=World.size_alloc _ _
  have X3:=X3.below b10 (by omega)
  have X7:=X7.below b10 (by omega)
  have G1:=G1.below netOw_ok b10 (by omega)
  have G5:=G5.below netOw_ok b10 (by omega)
  have G9:=G9.below netOw_ok b10 (by omega)
  have T:=T.trans (b10.mono (by omega))
  have X11:Blk (w9.alloc (.cells #[.slice l12A0 l12n0 l12c0] 29)) w9.heap.size 29 #[.slice l12A0 l12n0 l12c0]:=Blk.new _ _ _
  clear gX3
  clear gX7
  have gX3:=X3.cell
  have gX7:=X7.cell
  have gX11:=X11.cell
  go_wp2_with fail
  refine (eqNet_v _ _ _ _ _ (G9.reads (netOw_reads ((w9.alloc (.cells #[.slice l12A0 l12n0 l12c0] 29))).heap.size) (by omega)) (G1.reads (netOw_reads ((w9.alloc (.cells #[.slice l12A0 l12n0 l12c0] 29))).heap.size) (by omega)) (Nat.le_refl _) (Nat.le_refl _)).mono ?_
  rintro e w11 ⟨rfl,b11⟩
  have z11:=b11.size
  have X3:=X3.below b11 (by omega)
  have X7:=X7.below b11 (by omega)
  have X11:=X11.below b11 (by omega)
  have G1:=G1.below netOw_ok b11 (by omega)
  have G5:=G5.below netOw_ok b11 (by omega)
  have G9:=G9.below netOw_ok b11 (by omega)
  have T:=T.trans (b11.mono (by omega))
  clear gX3
  clear gX7
  clear gX11
  have gX3:=X3.cell
  have gX7:=X7.cell
  have gX11:=X11.cell
  go_wp2_with fail
  refine (heldNet_r _ ((readNet s).1) _ _ mq emq (G5.reads (netOw_reads (w11).heap.size) (by omega)) (Nat.le_refl _) sr (by omega) (by omega)).mono ?_
  rintro e w12 ⟨rfl,b12⟩
  have z12:=b12.size
  have X3:=X3.below b12 (by omega)
  have X7:=X7.below b12 (by omega)
  have X11:=X11.below b12 (by omega)
  have G1:=G1.below netOw_ok b12 (by omega)
  have G5:=G5.below netOw_ok b12 (by omega)
  have G9:=G9.below netOw_ok b12 (by omega)
  have T:=T.trans (b12.mono (by omega))
  clear gX3
  clear gX7
  clear gX11
  have gX3:=X3.cell
  have gX7:=X7.cell
  have gX11:=X11.cell
  go_wp2_with fail
  go_ret
  exact ⟨rfl,T⟩
end
end Go.Proofs.YtkfmlehhbanopaaGreatDoor
