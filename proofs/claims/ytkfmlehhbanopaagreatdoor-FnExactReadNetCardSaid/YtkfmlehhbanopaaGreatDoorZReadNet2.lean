/- Lemmas of the proof of ReadNet, part 2. No condition. -/
import Derived.Test.YtkfmlehhbanopaaGreatDoorZReadNet1
namespace Go.Proofs.YtkfmlehhbanopaaGreatDoor
set_option linter.unusedVariables false
set_option linter.unusedSimpArgs false
section
open Go.RowKit
/-- A loop that goes through the states st 0, st 1, .. and ends at st n. -/
theorem traj {σ ρ:Type} {L:Nat→σ→Option ρ} {st:Nat→σ} {n:Nat} {r:Option ρ} (h :∀g k,k < n→L (g+1) (st k)=L g (st (k+1))) (he :∀g,L (g+1) (st n)=r) :∀g,n < g→L g (st 0)=r:=by
  have key :∀d k g,k+d=n→d < g→L g (st k)=r:=by
    intro d
    induction d with
    |zero=>
      intro k g hk hg
      obtain ⟨g,rfl⟩ :∃g',g=g'+1:=⟨g - 1,by omega⟩
      obtain rfl:k=n:=by omega
      exact he g
    |succ d ih=>
      intro k g hk hg
      obtain ⟨g,rfl⟩ :∃g',g=g'+1:=⟨g - 1,by omega⟩
      rw [h g k (by omega)]
      exact ih (k+1) g (by omega) (by omega)
  intro g hg
  exact key n 0 g (by omega) hg
/-- A loop over an index. -/
theorem trajI {ρ:Type} {L:Nat→Int→Option ρ} {n:Nat} {r:Option ρ} (h :∀g (k:Nat),k < n→L (g+1) (k:Int)=L g ((k:Int)+1)) (he :∀g,L (g+1) (n:Int)=r) (g:Nat) (hg:n < g):L g 0=r:=
  traj (L:=fun g (k:Nat)=>L g (k:Int)) (st:=fun k=>k) (fun g k hk=>by simpa using h g k hk) he g hg
open Classical in
/-- A loop that asks p of each index. -/
theorem allI {ρ:Type} {L:Nat→Int→Option ρ} {n:Nat} {p:Nat→Prop} {no K:Option ρ} (h1 :∀g (k:Nat),k < n→p k→L (g+1) (k:Int)=L g ((k:Int)+1)) (h2 :∀g (k:Nat),k < n→¬ p k→L (g+1) (k:Int)=no) (h3 :∀g,L (g+1) (n:Int)=K) (g:Nat) (hg:n < g) :
    L g 0=if∀k,k < n→p k then K else no:=by
  by_cases ha :∀k,k < n→p k
  · rw [if_pos ha]
    exact trajI (fun g k hk=>h1 g k hk (ha k hk)) h3 g hg
  · rw [if_neg ha]
    have hex :∃k,k < n∧¬ p k:=by
      apply Classical.byContradiction
      intro hn
      exact ha fun k hk=>Classical.byContradiction fun hp=>hn ⟨k,hk,hp⟩
    obtain ⟨m,⟨hm,hpm⟩,hleast⟩ :∃m,(m < n∧¬ p m)∧∀k,k < m→k < n→p k:=by
      obtain ⟨k0,hk0⟩:=hex
      induction k0 using Nat.strongRecOn with
      |_ k0 ih=>
        by_cases h :∃k,k < k0∧k < n∧¬ p k
        · obtain ⟨k,hk,hk1⟩:=h
          exact ih k hk hk1
        · exact ⟨k0,hk0,fun k hk hkn=>Classical.byContradiction fun hp=>h ⟨k,hk,hkn,hp⟩⟩
    exact trajI (n:=m) (fun g k hk=>h1 g k (by omega) (hleast k hk (by omega))) (fun g=>h2 g m hm hpm) g (by omega)
theorem allO {ρ:Type} {L:Nat→Int→Option ρ} {n:Nat} {p:Nat→Prop} {no K:Option ρ} (h1 :∀g (k:Nat),k < n→p k→L (g+1) (k:Int)=L g ((k:Int)+1)) (h2 :∀g (k:Nat),k < n→¬ p k→L (g+1) (k:Int)=no) (h3 :∀g,L (g+1) (n:Int)=K) (g:Nat) (hg:n < g) :
    ((∀k,k < n→p k)∧L g 0=K) ∨ ((¬∀k,k < n→p k)∧L g 0=no):=by
  have h:=allI h1 h2 h3 g hg
  by_cases ha :∀k,k < n→p k
  · rw [if_pos ha] at h; exact .inl ⟨ha,h⟩
  · rw [if_neg ha] at h; exact .inr ⟨ha,h⟩
theorem getI_lt {α:Type} {xs:List α} {k:Nat} (h:k < xs.length):getI xs (k:Int)=some xs[k]:=by simp [getI,h]
theorem dlt {k n:Nat} (h:k < n):decide ((k:Int) < (n:Int))=true:=by simp; omega
theorem dge {n:Nat} : decide ((n:Int) < (n:Int))=false:=by simp
end
section
open Go.RowKit
def fieldsN (k:Int) (p:Nat):Int:=if k=9 then (p:Int) - 1 else 0
def defIx (n:Int):Bool:=decide (0≤n) && decide (n≤23)
def int32B (n:Int):Bool:=decide (-2147483648≤n) && decide (n≤2147483647)
def operB (n:Int):Bool:=decide (1≤n) && decide (n≤6)
def content (k v:Int) (d:List Int):Bool:=
  if k=6 then decide (d.length=0) && int32B v
  else if k=7 then decide (d.length=0) && operB v
  else if k=8 then decide (d.length=1) && operB v && int32B (d.getD 0 0)
  else if k=9 then decide (d.length=0) && (decide (0≤v) && decide (v≤3))
  else if k=12 then decide (d.length=0) && defIx v
  else if k=10 then decide (v=0) && (decide (1≤d.length) && decide (d.length≤4)) && d.all defIx
  else if k=11 then decide (v=0) && decide (d.length=2) && d.all defIx
  else decide (v=0) && decide (d.length=0)
def agentOk (x:DAgent):Bool:=decide (0 < portsOf x.kind (fieldsN x.kind x.ports.length)) && decide ((x.ports.length:Int)=portsOf x.kind (fieldsN x.kind x.ports.length)) && allowed x.kind x.level && content x.kind x.value x.data
def AgentsOk (xs:List DAgent):Prop:=1≤xs.length∧xs.length≤600∧∀(i:Nat) (x:DAgent),xs[i]? = some x→agentOk x=true∧decide (x.kind=1)=decide (i=0)
open Classical in
noncomputable def agentsOk (xs:List DAgent):Bool:=decide (AgentsOk xs)
def agentAt (xs:List DAgent) (i:Int):DAgent:=xs.getD i.toNat default
def hasPort (xs:List DAgent) (p:DPort):Bool:=decide (0≤p.agent) && decide (p.agent < xs.length) && decide (0≤p.slot) && decide (p.slot < (agentAt xs p.agent).ports.length)
def peer (xs:List DAgent) (p:DPort):DPort:=(agentAt xs p.agent).ports.getD p.slot.toNat default
def badPort (xs:List DAgent) (p:DPort):Bool:=decide (peer xs p=p)||!hasPort xs (peer xs p)||!decide (peer xs (peer xs p)=p)
def PortsOk (xs:List DAgent):Prop:=∀(i:Nat) (x:DAgent),xs[i]? = some x→∀k:Nat,k < x.ports.length→badPort xs ⟨i,k⟩=false
open Classical in
noncomputable def validNet (x:DNet):Bool:=decide (AgentsOk x.agents∧PortsOk x.agents)
/-- All ports in order. -/
def agentPorts (i:Nat) (x:DAgent):List DPort:=(List.range x.ports.length).map fun (k:Nat)=>⟨i,k⟩
def portsFrom:Nat→List DAgent→List DPort
  |_,[]=>[]
  |i,x :: xs=>agentPorts i x ++ portsFrom (i+1) xs
def allPorts (xs:List DAgent):List DPort:=portsFrom 0 xs
theorem portsFrom_append :∀(i:Nat) (xs ys:List DAgent),portsFrom i (xs ++ ys)=portsFrom i xs ++ portsFrom (i+xs.length) ys
  |i,[],ys=>by simp [portsFrom]
  |i,x :: xs,ys=>by simp [portsFrom,portsFrom_append (i+1) xs ys,Nat.add_assoc,Nat.add_comm 1]
theorem allPorts_take {xs:List DAgent} {i:Nat} {x:DAgent} (h:xs[i]? = some x):allPorts (xs.take (i+1))=allPorts (xs.take i) ++ agentPorts i x:=by
  rw [take_succ_some h,allPorts,portsFrom_append]
  have hl:(xs.take i).length=i:=by have:=lt_of_some h; simp; omega
  simp [allPorts,portsFrom,hl]
theorem mem_portsFrom :∀{i:Nat} {xs:List DAgent} {p:DPort},p∈portsFrom i xs↔∃(j:Nat) (x:DAgent) (k:Nat),xs[j]? = some x∧k < x.ports.length∧p=⟨((i+j:Nat):Int),(k:Nat)⟩
  |i,[],p=>by simp [portsFrom]
  |i,y :: ys,p=>by
    rw [portsFrom,List.mem_append,mem_portsFrom]
    constructor
    · rintro (h|⟨j,x,k,h1,h2,h3⟩)
      · simp only [agentPorts,List.mem_map,List.mem_range] at h
        obtain ⟨k,hk,rfl⟩:=h
        exact ⟨0,y,k,rfl,hk,rfl⟩
      · exact ⟨j+1,x,k,by simpa using h1,h2,by rw [h3]; congr 2; omega⟩
    · rintro ⟨j,x,k,h1,h2,h3⟩
      cases j with
      |zero=>
        have:y=x:=by simpa using h1
        subst this
        exact .inl (by simp only [agentPorts,List.mem_map,List.mem_range]; exact ⟨k,h2,h3.symm⟩)
      |succ j=>exact .inr ⟨j,x,k,by simpa using h1,h2,by rw [h3]; congr 2; omega⟩
theorem any_allPorts (xs:List DAgent):(allPorts xs).any (badPort xs)=false↔PortsOk xs:=by
  rw [List.any_eq_false]
  constructor
  · intro h i x hx k hk
    have:=h ⟨i,k⟩ (mem_portsFrom.2 ⟨i,x,k,hx,hk,by simp⟩)
    simpa using this
  · intro h p hp
    obtain ⟨j,x,k,h1,h2,rfl⟩:=mem_portsFrom.1 hp
    have:=h j x h1 k h2
    simpa using this
theorem hasPort_at {xs:List DAgent} {p:DPort} (h:hasPort xs p=true) :∃(i k:Nat) (x:DAgent),p=⟨(i:Nat),(k:Nat)⟩∧xs[i]? = some x∧k < x.ports.length∧agentAt xs p.agent=x:=by
  obtain ⟨a,s⟩:=p
  simp only [hasPort,Bool.and_eq_true,decide_eq_true_eq] at h
  obtain ⟨⟨⟨h1,h2⟩,h3⟩,h4⟩:=h
  obtain ⟨i,rfl⟩:=Int.eq_ofNat_of_zero_le h1
  obtain ⟨k,rfl⟩:=Int.eq_ofNat_of_zero_le h3
  have hi:i < xs.length:=by omega
  refine ⟨i,k,xs[i],rfl,by simp [hi],?_,by simp [agentAt,List.getD,hi]⟩
  have:agentAt xs (i:Int)=xs[i]:=by simp [agentAt,List.getD,hi]
  rw [this] at h4
  omega
theorem hasPort_of {xs:List DAgent} {i k:Nat} {x:DAgent} (h:xs[i]? = some x) (hk:k < x.ports.length):hasPort xs ⟨i,k⟩=true:=by
  have hi:=lt_of_some h
  have:agentAt xs (i:Int)=x:=by simp [agentAt,List.getD,h]
  simp [hasPort,this]
  omega
theorem peer_of {xs:List DAgent} {i k:Nat} {x:DAgent} {q:DPort} (h:xs[i]? = some x) (hk:x.ports[k]? = some q):peer xs ⟨i,k⟩=q:=by
  have:agentAt xs (i:Int)=x:=by simp [agentAt,List.getD,h]
  simp [peer,this,List.getD,hk]
end
section
open Go.RowKit
theorem eqInt64S_c (A C:Option Addr) (n c m d:Nat) (xs ys:List Int) (w:World) {B:Nat} (hx:SlAt intRd 1 w B A n xs) (hy:SlAt intRd 1 w B C m ys) (hn:n≤9223372036854775807) (hm:m≤9223372036854775807) :
    Calls Tryz.prog 77 #[.slice A n c,.slice C m d] w fun e w'=>e=.returned (.bool (eqL xs ys))∧∃q,w'=w.drewN q:=by
  have lx:=Lib.hid hx.len
  have ly:=Lib.hid hy.len
  by_cases hnm:n=m
  · subst hnm
    go_enter Tryz.func77,Tryz.ntmps77
    go_wp2
    go_loopw [5] (fun i wr=>∃k:Nat,k≤n∧i=.int .i64 k∧Hid (xs.take k=ys.take k)∧Hid (∃q,wr=w.drewN q)) (fun i _=>n - (intOf i).toNat)
    case atStart=>exact ⟨0,by omega,rfl,rfl,⟨0,rfl⟩⟩
    case round=>
      obtain ⟨k,hk,rfl,ht,hq⟩:=hrel
      by_cases hlt:k < n
      · obtain ⟨b,off,x,rfl,hb,hxk,hc⟩:=hx.int hlt
        obtain ⟨b',off',y,rfl,hb',hyk,hc'⟩:=hy.int hlt
        have Hxk:=Lib.hid hxk
        have Hyk:=Lib.hid hyk
        clear hxk hyk
        obtain ⟨q,rfl⟩:=hq
        by_cases hxy:x=y
        · have hf:(x != y)=false:=by simp [hxy]
          have Hxy:=Lib.hid hxy
          clear hxy
          go_wp2
          go_quiet (fail)
          go_wp2
          go_roundw
          case rel=>exact ⟨k+1,by omega,by go_num,eqL_step Hxk.out Hyk.out ht.out Hxy.out,⟨_,rfl⟩⟩
          case measure=>simp [intOf]; omega
        · have hf:(x != y)=true:=by simp [hxy]
          have Hno:=Lib.hid (eqL_no Hxk.out Hyk.out hxy)
          clear hxy
          go_wp2
          go_quiet (fail)
          go_wp2
          go_ret
          exact ⟨by rw [Hno.out]; rfl,(by first|exact ⟨_,rfl⟩|exact ⟨_,World.drewN_drewN _ _ _⟩)⟩
      · have Hyes:=Lib.hid (eqL_yes (k:=k) ht.out (by have:=lx.out; omega) (by have:=ly.out; omega))
        obtain ⟨q,rfl⟩:=hq
        go_wp2
        go_ret
        exact ⟨by rw [Hyes.out]; rfl,⟨_,rfl⟩⟩
  · have Hno:=Lib.hid (eqL_len (xs:=xs) (ys:=ys) (by have:=lx.out; have:=ly.out; omega))
    have hf:((n:Int) != (m:Int))=true:=by simp; omega
    go_enter Tryz.func77,Tryz.ntmps77
    go_wp2
    go_ret
    exact ⟨by rw [Hno.out]; rfl,⟨0,rfl⟩⟩
theorem markInt64S_c (A:Option Addr) (n c k0:Nat) (xs:List Int) (bs:List Nat) (w:World) (hx:OwAt intOw 1 w A n xs bs) (hnd:bs.Nodup) (hn:n≤4294967296) (hk0:k0≤4611686018427387904) :
    Calls Tryz.prog 51 #[.slice A n c,.int .i64 k0] w fun e w'=>e=.returned (.int .i64 ((k0+n:Nat):Int))∧OwAt intOw 1 w' A n (marks k0 n) bs∧Only bs w w':=by
  have lx:=Lib.hid hx.len
  have hmid:=Lib.hid hx.mid
  clear hx
  go_enter Tryz.func51,Tryz.ntmps51
  go_wp2
  go_loopw [1,5] (fun kk i wr=>∃k:Nat,k≤n∧i=.int .i64 k∧kk=.int .i64 ((k0:Int)+k)∧Only bs w wr∧Hid (MidAt intOw 1 wr A (marks k0 k) (xs.drop k) bs)) (fun _ i _=>n - (intOf i).toNat)
  case atStart=>exact ⟨0,by omega,rfl,by simp,Only.refl _ _,hmid.out⟩
  case round=>
    obtain ⟨k,hk,rfl,rfl,ho,hm⟩:=hrel
    by_cases hlt:k < n
    · obtain ⟨x,hxk⟩ :∃x,xs[k]? = some x:=⟨_,List.getElem?_eq_getElem (by have:=lx.out; omega)⟩
      have hm:=hm.out
      rw [drop_some hxk] at hm
      obtain ⟨b,o,cs,b1,bx,b2,rfl,hbs,hO,hc,h1,h2⟩:=hm.next
      obtain ⟨rfl,rfl⟩:=hO
      rw [marks_len,Nat.mul_one] at hc h2
      obtain ⟨hc1,hc2⟩:=hc 0 _ rfl
      rw [Nat.add_zero] at hc1 hc2
      have HN:=Lib.hid hbs
      have Hx:=Lib.hid hxk
      have H1:=Lib.hid h1
      have H2:=Lib.hid h2
      clear hbs hxk h1 h2 hm hc
      go_wp2
      go_roundw
      case rel=>
        have hnd':=hnd
        rw [HN.out] at hnd'
        have hb:b ∉ b1∧b ∉ b2:=by simpa using (List.nodup_cons.1 hnd').1
        have hlen:(marks k0 k).length=k:=marks_len _ _
        refine ⟨k+1,by omega,by go_num,by go_num,ho.setCell (p:=⟨b,o+k,none⟩) (by rw [HN.out]; simp) _,?_⟩
        rw [marks_succ,HN.out]
        refine MidAt.step (o:=o) rfl (ElAt.setRun intOw_ok (vs:=[.int .i64 ((k0:Int)+k)]) (p:=o+k) H1.out hb.1 (Or.inr (by omega))) ⟨rfl,rfl⟩ ?_ ?_
        · rw [hlen,Nat.mul_one]
          exact setRun_csAt (vs:=[.int .i64 ((k0:Int)+k)]) (fun j hj=>⟨_,by simp at hj; subst hj; exact hc1⟩) (fun j hj=>by simp at hj; subst hj; exact hc2)
        · rw [hlen,Nat.mul_one]
          exact ElAt.setRun intOw_ok (vs:=[.int .i64 ((k0:Int)+k)]) (p:=o+k) H2.out hb.2 (Or.inl (by simp))
      case measure=>simp [intOf]; omega
    · obtain rfl:n=k:=by omega
      have hm:=hm.out
      rw [List.drop_of_length_le (by have:=lx.out; omega)] at hm
      have Hm:=Lib.hid (hm.whole (n:=n) (marks_len _ _).symm)
      clear hm
      go_wp2
      go_ret
      exact ⟨rfl,Hm.out,ho⟩
end
section
open Go.RowKit
theorem eqInt64S_v (v u:Value) (xs ys:List Int) (w:World) {B B':Nat} (h:RdS intRd 1 w B v xs) (h':RdS intRd 1 w B' u ys) (hB:B≤w.heap.size) (hB':B'≤w.heap.size) :
    Calls Tryz.prog 77 #[v,u] w fun e w'=>e=.returned (.bool (eqL xs ys))∧Below w.heap.size w w':=by
  obtain ⟨A,n,c,rfl,h,hnc,hcm⟩:=h
  obtain ⟨C,m,d,rfl,h',hmd,hdm⟩:=h'
  refine (eqInt64S_c A C n c m d xs ys w (h.more intRd_ok (Nat.le_max_left B B')) (h'.more intRd_ok (Nat.le_max_right B B')) (by unfold maxLen at hcm; omega) (by unfold maxLen at hdm; omega)).mono ?_
  rintro e w' ⟨rfl,q,rfl⟩
  exact ⟨rfl,⟨rfl,rfl,rfl,Nat.le_refl _,fun _ _=>rfl⟩⟩
end
section
open Go.RowKit
@[go_sem] theorem eqPort_run (a b c d:Int) (w:World):(Op.equalIn 10000 61 (.agg #[.int .i64 a,.int .i64 b]) (.agg #[.int .i64 c,.int .i64 d])).run Tryz.prog w=.ok (a==c && b==d) w:=by
  have u3:=Tryz.underlying2
  have hS:Tryz.prog.underlying 61=some (.struct (Tryz.prog.fieldsOf 61)):=by kernel_rfl
  have hp:Tryz.prog.stoodInHeld 61=false:=by kernel_rfl
  rw [show (10000:Nat)=9999+1 from rfl,run_equalIn_agg w 9999 61 _ _ hS hp]
  simp only [Program.fieldsOf,Tryz.underlying61]
  go_simp
  by_cases h1:a=c <;> by_cases h2:b=d <;> simp [h1,h2]
@[go_sem] theorem eqGuardPort_run (op:BinOp) (x y:Operand) (xs ys:Array Value) (w:World):(eqGuard op 61 x y (.agg xs) (.agg ys)).run Tryz.prog w=.ok () w:=run_eqGuard_agg w op 61 x y xs ys (by kernel_rfl)
end
section
open Go.RowKit
set_option maxRecDepth 100000
def m_spec_l11Fields (d0:DAgent):Option Int:=
  (bif (d0.kind==9) then ((ck ((d0.ports.length:Int) - 1)).bind fun s4=>some s4) else some 0)
set_option maxHeartbeats 2000000 in
theorem c_m_spec_l11Fields (d0:DAgent) (r:Int) (hm:m_spec_l11Fields d0=some r) (v0:Value) (w:World) (hv0:Pt agentRd w v0 d0) :
    Calls Tryz.prog 90 #[v0] w fun e w'=>e=.returned (.int .i64 r)∧Below w.heap.size w w':=by
  obtain ⟨ba0,oa0,csa0,rfl,hba0,hRa0,hca0⟩:=hv0
  have hSa0:=hRa0
  obtain ⟨A1,n1,c1,A2,n2,c2,rfl,⟨h1,r1⟩,⟨h2,r2⟩⟩:=hRa0
  have e1:=h1.len; subst e1
  have q1:=len_le r1
  have e2:=h2.len; subst e2
  have q2:=len_le r2
  have T:=Below.refl w.heap.size w
  unfold m_spec_l11Fields at hm
  refine enter 14 Tryz.func90 rfl rfl rfl ?_
  intro f hf
  have s0:f 0=.pointer (some ⟨ba0,oa0,none⟩):=hf 0 _ rfl
  refine wp_seq<|wp_rs rfl<|RQ.y rfl (Y.assign (v:=.int .i64 0) rfl)<|RQ.nil<|then_n<|wp_seq<|wp_seq<|wp_rs rfl<|RQ.y rfl (Y.move (v:=.pointer (some ⟨ba0,oa0,none⟩)) s0)<|RQ.y rfl (Y.nilCheck rfl)<|RQ.y rfl (Y.fieldAddr (off:=0) rfl (by kernel_rfl))<|RQ.y rfl (Y.load (v:=.int .i64 d0.kind) rfl (by kernel_rfl) (eqC (cellT T (hca0 0 _ rfl))))<|RQ.y rfl (Y.binI (v:=.bool (d0.kind==9)) rfl rfl rfl)<|RQ.nil<|then_n ?_
  rcases bcases (d0.kind==9) with c3|c3
  ·replace hm:=cF c3 hm
   refine cond_f rfl (vb rfl c3)<|wp_skip<|then_n<|wp_seq<|wp_rs rfl<|RQ.y rfl (Y.assign (v:=.int .i64 0) rfl)<|RQ.nil<|then_n<|wp_ret ?_
   obtain rfl:=sj hm
   exact (ret1 rfl rfl rfl ⟨rfl,T⟩)
  replace hm:=cT c3 hm
  refine cond_t rfl (vb rfl c3)<|wp_seq<|wp_rs rfl<|RQ.y rfl (Y.move (v:=.pointer (some ⟨ba0,oa0,none⟩)) s0)<|RQ.y rfl (Y.nilCheck rfl)<|RQ.y rfl (Y.fieldAddr (off:=4) rfl (by kernel_rfl))<|RQ.y rfl (Y.load (v:=.slice A2 d0.ports.length c2) rfl (by kernel_rfl) (eqC (cellT T (hca0 4 _ rfl))))<|RQ.y rfl (Y.len (by kernel_rfl) rfl) ?_
  obtain ⟨s4,ks4,hm⟩:=bnd hm
  replace ks4:=ck_some ks4
  refine RQ.y rfl (Y.binI (v:=.int .i64 s4) rfl rfl (by rw [binI_sub ks4.2,ks4.1]))<|RQ.y rfl (Y.assign (v:=.int .i64 s4) rfl)<|RQ.nil<|then_n<|wp_ret ?_
  obtain rfl:=sj hm
  exact (then_r (ret1 rfl rfl rfl ⟨rfl,T⟩))
def m_spec_l11Def (d0:Int):Option Bool:=
  some (inR d0 0 23)
set_option maxHeartbeats 2000000 in
theorem c_m_spec_l11Def (d0:Int) (r:Bool) (hm:m_spec_l11Def d0=some r)  (w:World)  :
    Calls Tryz.prog 115 #[.int .i64 d0] w fun e w'=>e=.returned (.bool r)∧Below w.heap.size w w':=by
  have T:=Below.refl w.heap.size w
  unfold m_spec_l11Def at hm
  refine enter 5 Tryz.func115 rfl rfl rfl ?_
  intro f hf
  have s0:f 0=.int .i64 d0:=hf 0 _ rfl
  refine wp_seq<|wp_rs rfl<|RQ.y rfl (Y.assign (v:=.bool false) rfl)<|RQ.nil<|then_n<|wp_seq<|wp_rb rfl<|RQ.y rfl (Y.move (v:=.int .i64 d0) s0)<|RQ.call rfl (am3 rfl rfl rfl) (by kernel_rfl) (v:=.bool (inR d0 0 23)) (bel (K:=fun _=>True) fun w' hb'=>(callB (spec_l00In d0 0 23 w')))<|RQ.y rfl (Y.assign (v:=.bool (inR d0 0 23)) rfl)<|RQ.nil ?_
  intro w1 hb2
  have szw1:=hb2.size
  have T:=Tt T hb2
  refine then_n<|wp_ret ?_
  obtain rfl:=sj hm
  exact (ret1 rfl rfl rfl ⟨rfl,T⟩)
def m_spec_l11Content_A1:Option Bool:=
  some true
def m_spec_l11Content_B1 (d0:DAgent) (rec1:Int→Option Bool) (K1:Option Bool) (i16:Int):Option Bool:=
  (bif (decide (i16 < (d0.data.length:Int))) then ((getI d0.data i16).bind fun x19=>((m_spec_l11Def x19).bind fun y28=>(bif y28 then (rec1 (i16+1)) else some false))) else (K1))
def m_spec_l11Content_L1 (d0:DAgent) (K1:Option Bool):Nat→Int→Option Bool
  |0,_=>none
  |g+1,i16=>m_spec_l11Content_B1 d0 (m_spec_l11Content_L1 d0 K1 g) K1 i16
def m_spec_l11Content_A2:Option Bool:=
  some true
def m_spec_l11Content_B2 (d0:DAgent) (rec2:Int→Option Bool) (K2:Option Bool) (i44:Int):Option Bool:=
  (bif (decide (i44 < (d0.data.length:Int))) then ((getI d0.data i44).bind fun x47=>((m_spec_l11Def x47).bind fun y56=>(bif y56 then (rec2 (i44+1)) else some false))) else (K2))
def m_spec_l11Content_L2 (d0:DAgent) (K2:Option Bool):Nat→Int→Option Bool
  |0,_=>none
  |g+1,i44=>m_spec_l11Content_B2 d0 (m_spec_l11Content_L2 d0 K2 g) K2 i44
def m_spec_l11Content_A3:Option Bool:=
  some true
def m_spec_l11Content_B3 (d0:DAgent) (rec3:Int→Option Bool) (K3:Option Bool) (i67:Int):Option Bool:=
  (bif (decide (i67 < (d0.data.length:Int))) then ((getI d0.data i67).bind fun x70=>((m_spec_l11Def x70).bind fun y79=>(bif y79 then (rec3 (i67+1)) else some false))) else (K3))
def m_spec_l11Content_L3 (d0:DAgent) (K3:Option Bool):Nat→Int→Option Bool
  |0,_=>none
  |g+1,i67=>m_spec_l11Content_B3 d0 (m_spec_l11Content_L3 d0 K3 g) K3 i67
def m_spec_l11Content (d0:DAgent):Option Bool:=
  (bif (d0.kind==6) then (bif ((d0.data.length:Int)==0) then some (inR d0.value (-2147483648) 2147483647) else some false) else (bif (d0.kind==7) then (bif ((d0.data.length:Int)==0) then some (inR d0.value 1 6) else some false) else (bif (d0.kind==8) then (bif ((d0.data.length:Int)==1) then (bif (inR d0.value 1 6) then ((getI d0.data 0).bind fun x107=>some (inR x107 (-2147483648) 2147483647)) else some false) else some false) else (bif (d0.kind==9) then (bif ((d0.data.length:Int)==0) then some (inR d0.value 0 3) else some false) else (bif (d0.kind==12) then (bif ((d0.data.length:Int)==0) then ((m_spec_l11Def d0.value).bind fun y92=>some y92) else some false) else (bif (d0.kind==10) then (bif (d0.value != 0) then some false else (bif (d0.kind==11) then (bif ((d0.data.length:Int) != 2) then some false else (bif (inR (d0.data.length:Int) 1 4) then (m_spec_l11Content_L3 d0 m_spec_l11Content_A3 (d0.data.length+1) 0) else some false)) else (bif (inR (d0.data.length:Int) 1 4) then (m_spec_l11Content_L2 d0 m_spec_l11Content_A2 (d0.data.length+1) 0) else some false))) else (bif (d0.kind==11) then (bif (d0.value != 0) then some false else (bif ((d0.data.length:Int) != 2) then some false else (m_spec_l11Content_L1 d0 m_spec_l11Content_A1 (d0.data.length+1) 0))) else (bif (d0.value==0) then some ((d0.data.length:Int)==0) else some false))))))))
set_option maxHeartbeats 2000000 in
theorem c_m_spec_l11Content (d0:DAgent) (r:Bool) (hm:m_spec_l11Content d0=some r) (v0:Value) (w:World) (hv0:Pt agentRd w v0 d0) :
    Calls Tryz.prog 92 #[v0] w fun e w'=>e=.returned (.bool r)∧Below w.heap.size w w':=by
  obtain ⟨ba0,oa0,csa0,rfl,hba0,hRa0,hca0⟩:=hv0
  have hSa0:=hRa0
  obtain ⟨A1,n1,c1,A2,n2,c2,rfl,⟨h1,r1⟩,⟨h2,r2⟩⟩:=hRa0
  have e1:=h1.len; subst e1
  have q1:=len_le r1
  have e2:=h2.len; subst e2
  have q2:=len_le r2
  have T:=Below.refl w.heap.size w
  unfold m_spec_l11Content at hm
  refine enter 162 Tryz.func92 rfl rfl rfl ?_
  intro f hf
  have s0:f 0=.pointer (some ⟨ba0,oa0,none⟩):=hf 0 _ rfl
  refine wp_seq<|wp_rs rfl<|RQ.y rfl (Y.assign (v:=.bool false) rfl)<|RQ.nil<|then_n<|wp_seq<|wp_seq<|wp_rs rfl<|RQ.y rfl (Y.move (v:=.pointer (some ⟨ba0,oa0,none⟩)) s0)<|RQ.y rfl (Y.nilCheck rfl)<|RQ.y rfl (Y.fieldAddr (off:=0) rfl (by kernel_rfl))<|RQ.y rfl (Y.load (v:=.int .i64 d0.kind) rfl (by kernel_rfl) (eqC (cellT T (hca0 0 _ rfl))))<|RQ.nil<|then_n<|wp_block<|wp_seq<|wp_rs rfl<|RQ.y rfl (Y.binI (v:=.bool (d0.kind==6)) rfl rfl rfl)<|RQ.y rfl (Y.assign (v:=.bool (d0.kind==6)) rfl)<|RQ.nil<|then_n ?_
  rcases bcases (d0.kind==6) with c3|c3
  ·replace hm:=cF c3 hm
   refine cond_f rfl (vb rfl c3)<|wp_seq<|wp_rs rfl<|RQ.y rfl (Y.binI (v:=.bool (d0.kind==7)) rfl rfl rfl)<|RQ.y rfl (Y.assign (v:=.bool (d0.kind==7)) rfl)<|RQ.nil<|then_n ?_
   rcases bcases (d0.kind==7) with c4|c4
   ·replace hm:=cF c4 hm
    refine cond_f rfl (vb rfl c4)<|wp_seq<|wp_rs rfl<|RQ.y rfl (Y.binI (v:=.bool (d0.kind==8)) rfl rfl rfl)<|RQ.y rfl (Y.assign (v:=.bool (d0.kind==8)) rfl)<|RQ.nil<|then_n ?_
    rcases bcases (d0.kind==8) with c5|c5
    ·replace hm:=cF c5 hm
     refine cond_f rfl (vb rfl c5)<|wp_seq<|wp_rs rfl<|RQ.y rfl (Y.binI (v:=.bool (d0.kind==9)) rfl rfl rfl)<|RQ.y rfl (Y.assign (v:=.bool (d0.kind==9)) rfl)<|RQ.nil<|then_n ?_
     rcases bcases (d0.kind==9) with c6|c6
     ·replace hm:=cF c6 hm
      refine cond_f rfl (vb rfl c6)<|wp_seq<|wp_rs rfl<|RQ.y rfl (Y.binI (v:=.bool (d0.kind==12)) rfl rfl rfl)<|RQ.y rfl (Y.assign (v:=.bool (d0.kind==12)) rfl)<|RQ.nil<|then_n ?_
      rcases bcases (d0.kind==12) with c7|c7
      ·replace hm:=cF c7 hm
       refine cond_f rfl (vb rfl c7)<|wp_seq<|wp_seq<|wp_rs rfl<|RQ.y rfl (Y.binI (v:=.bool (d0.kind==10)) rfl rfl rfl)<|RQ.y rfl (Y.assign (v:=.bool (d0.kind==10)) rfl)<|RQ.nil<|then_n ?_
       rcases bcases (d0.kind==10) with c8|c8
       ·replace hm:=cF c8 hm
        refine cond_f rfl (vb rfl c8)<|wp_rs rfl<|RQ.y rfl (Y.binI (v:=.bool (d0.kind==11)) rfl rfl rfl)<|RQ.y rfl (Y.assign (v:=.bool (d0.kind==11)) rfl)<|RQ.nil<|then_n ?_
        rcases bcases (d0.kind==11) with c9|c9
        ·replace hm:=cF c9 hm
         refine cond_f rfl (vb rfl c9)<|wp_skip ?_
         refine blk_n (then_n ?_)
         refine wp_seq<|wp_rs rfl<|RQ.y rfl (Y.move (v:=.pointer (some ⟨ba0,oa0,none⟩)) s0)<|RQ.y rfl (Y.nilCheck rfl)<|RQ.y rfl (Y.fieldAddr (off:=2) rfl (by kernel_rfl))<|RQ.y rfl (Y.load (v:=.int .i64 d0.value) rfl (by kernel_rfl) (eqC (cellT T (hca0 2 _ rfl))))<|RQ.y rfl (Y.binI (v:=.bool (d0.value==0)) rfl rfl rfl)<|RQ.y rfl (Y.move (v:=.bool (d0.value==0)) rfl) ?_
         rcases bcases (d0.value==0) with c10|c10
         ·replace hm:=cF c10 hm
          iterate 6 refine RQ.skip (wantN (dj:=154) rfl (vb rfl c10) rfl) ?_
          refine RQ.y rfl (Y.pick (b:=false) (v:=.bool false) (vb rfl c10) rfl)<|RQ.y rfl (Y.assign (v:=.bool false) rfl)<|RQ.nil<|then_n<|wp_ret ?_
          obtain rfl:=sj hm
          exact (ret1 rfl rfl rfl ⟨rfl,T⟩)
         replace hm:=cT c10 hm
         refine RQ.y (wantT (dj:=154) rfl (vb rfl c10)) (Y.move (v:=.pointer (some ⟨ba0,oa0,none⟩)) s0)<|RQ.y (wantT (dj:=154) rfl (vb rfl c10)) (Y.nilCheck rfl)<|RQ.y (wantT (dj:=154) rfl (vb rfl c10)) (Y.fieldAddr (off:=3) rfl (by kernel_rfl))<|RQ.y (wantT (dj:=154) rfl (vb rfl c10)) (Y.load (v:=.slice A1 d0.data.length c1) rfl (by kernel_rfl) (eqC (cellT T (hca0 3 _ rfl))))<|RQ.y (wantT (dj:=154) rfl (vb rfl c10)) (Y.len (by kernel_rfl) rfl)<|RQ.y (wantT (dj:=154) rfl (vb rfl c10)) (Y.binI (v:=.bool ((d0.data.length:Int)==0)) rfl rfl rfl)<|RQ.y rfl (Y.pick (b:=true) (v:=.bool ((d0.data.length:Int)==0)) (vb rfl c10) rfl)<|RQ.y rfl (Y.assign (v:=.bool ((d0.data.length:Int)==0)) rfl)<|RQ.nil<|then_n<|wp_ret ?_
         obtain rfl:=sj hm
         exact (ret1 rfl rfl rfl ⟨rfl,T⟩)
        replace hm:=cT c9 hm
        refine cond_t rfl (vb rfl c9)<|wp_seq<|wp_seq<|wp_rb rfl<|RQ.y rfl (Y.move (v:=.pointer (some ⟨ba0,oa0,none⟩)) s0)<|RQ.y rfl (Y.nilCheck rfl)<|RQ.y rfl (Y.fieldAddr (off:=2) rfl (by kernel_rfl))<|RQ.y rfl (Y.load (v:=.int .i64 d0.value) rfl (by kernel_rfl) (beC (cellT T (hca0 2 _ rfl))))<|RQ.y rfl (Y.binI (v:=.bool (d0.value != 0)) rfl rfl rfl)<|RQ.y rfl (Y.move (v:=.bool (d0.value != 0)) rfl) ?_
        rcases bcases (d0.value != 0) with c11|c11
        ·replace hm:=cF c11 hm
         refine RQ.y (wantT (dj:=100) rfl (vb rfl c11)) (Y.move (v:=.pointer (some ⟨ba0,oa0,none⟩)) s0)<|RQ.y (wantT (dj:=100) rfl (vb rfl c11)) (Y.nilCheck rfl)<|RQ.y (wantT (dj:=100) rfl (vb rfl c11)) (Y.fieldAddr (off:=0) rfl (by kernel_rfl))<|RQ.y (wantT (dj:=100) rfl (vb rfl c11)) (Y.load (v:=.int .i64 d0.kind) rfl (by kernel_rfl) (beC (cellT T (hca0 0 _ rfl))))<|RQ.y (wantT (dj:=100) rfl (vb rfl c11)) (Y.binI (v:=.bool (d0.kind==11)) rfl rfl rfl)<|RQ.y (wantT (dj:=100) rfl (vb rfl c11)) (Y.move (v:=.bool (d0.kind==11)) rfl)<|RQ.y (wantT (dj:=106) rfl (vb rfl c9)) (Y.move (v:=.pointer (some ⟨ba0,oa0,none⟩)) s0)<|RQ.y (wantT (dj:=106) rfl (vb rfl c9)) (Y.nilCheck rfl)<|RQ.y (wantT (dj:=106) rfl (vb rfl c9)) (Y.fieldAddr (off:=3) rfl (by kernel_rfl))<|RQ.y (wantT (dj:=106) rfl (vb rfl c9)) (Y.load (v:=.slice A1 d0.data.length c1) rfl (by kernel_rfl) (beC (cellT T (hca0 3 _ rfl))))<|RQ.y (wantT (dj:=106) rfl (vb rfl c9)) (Y.len (by kernel_rfl) rfl)<|RQ.y (wantT (dj:=106) rfl (vb rfl c9)) (Y.binI (v:=.bool ((d0.data.length:Int) != 2)) rfl rfl rfl)<|RQ.y (wantT (dj:=100) rfl (vb rfl c11)) (Y.pick (b:=true) (v:=.bool ((d0.data.length:Int) != 2)) (vb rfl c9) rfl)<|RQ.y rfl (Y.pick (b:=false) (v:=.bool ((d0.data.length:Int) != 2)) (vb rfl c11) rfl)<|RQ.y rfl (Y.move (v:=.bool ((d0.data.length:Int) != 2)) rfl) ?_
         rcases bcases ((d0.data.length:Int) != 2) with c12|c12
         ·replace hm:=cF c12 hm
          refine RQ.y (wantT (dj:=115) rfl (vb rfl c12)) (Y.move (v:=.pointer (some ⟨ba0,oa0,none⟩)) s0)<|RQ.y (wantT (dj:=115) rfl (vb rfl c12)) (Y.nilCheck rfl)<|RQ.y (wantT (dj:=115) rfl (vb rfl c12)) (Y.fieldAddr (off:=0) rfl (by kernel_rfl))<|RQ.y (wantT (dj:=115) rfl (vb rfl c12)) (Y.load (v:=.int .i64 d0.kind) rfl (by kernel_rfl) (beC (cellT T (hca0 0 _ rfl))))<|RQ.y (wantT (dj:=115) rfl (vb rfl c12)) (Y.binI (v:=.bool (d0.kind==10)) rfl rfl rfl)<|RQ.y (wantT (dj:=115) rfl (vb rfl c12)) (Y.move (v:=.bool (d0.kind==10)) rfl) ?_
          iterate 7 refine RQ.skip (wantN (dj:=121) rfl (vb rfl c8) rfl) ?_
          refine RQ.y (wantT (dj:=115) rfl (vb rfl c12)) (Y.pick (b:=false) (v:=.bool false) (vb rfl c8) rfl)<|RQ.y rfl (Y.pick (b:=false) (v:=.bool false) (vb rfl c12) rfl)<|RQ.nil ?_
          intro w13 hb14
          have szw13:=hb14.size
          have T:=Tt T hb14
          refine then_n<|cond_f rfl rfl<|wp_skip<|then_n<|wp_seq<|wp_seq<|wp_rs rfl<|RQ.y rfl (Y.assign (v:=.int .i64 0) rfl)<|RQ.nil<|then_n<|wp_block ?_
          obtain ⟨K1,hK1,hm⟩ :∃K,K=m_spec_l11Content_A1∧m_spec_l11Content_L1 d0 K (d0.data.length+1) 0=some r:=⟨_,rfl,hm⟩
          refine wp_loopX (fun g f w'=>∃(i16:Int),f 0=.pointer (some ⟨ba0,oa0,none⟩)∧f 3=.int .i64 i16∧0≤i16∧Below w.heap.size w w'∧m_spec_l11Content_L1 d0 K1 g i16=some r) 1 (fun f w'=>Below w.heap.size w w'∧m_spec_l11Content_A1  = some r) (d0.data.length+1) ⟨0,s0,rfl,(by omega),T,hm⟩ ?_ ?_
          ·rintro f w15 ⟨T,hm⟩
           unfold m_spec_l11Content_A1 at hm
           refine blk_hit (then_n ?_)
           refine wp_seq<|wp_rs rfl<|RQ.y rfl (Y.assign (v:=.bool true) rfl)<|RQ.nil<|then_n<|wp_ret ?_
           obtain rfl:=sj hm
           exact (blk_r (then_r (ret1 rfl rfl rfl ⟨rfl,T⟩)))
          rintro g f w17 ⟨i16,s0_1,s3_1,nn3_1,T,hm⟩
          rcases g with _|g
          ·simp only [m_spec_l11Content_L1] at hm; cases hm
          obtain ⟨rec1,hrec1,hm⟩ :∃z,z=m_spec_l11Content_L1 d0 K1 g∧m_spec_l11Content_B1 d0 z K1 i16=some r:=⟨_,rfl,hm⟩
          unfold m_spec_l11Content_B1 at hm
          refine wp_seq<|wp_seq<|wp_rs rfl<|RQ.y rfl (Y.move (v:=.int .i64 i16) s3_1)<|RQ.y rfl (Y.move (v:=.pointer (some ⟨ba0,oa0,none⟩)) s0_1)<|RQ.y rfl (Y.nilCheck rfl)<|RQ.y rfl (Y.fieldAddr (off:=3) rfl (by kernel_rfl))<|RQ.y rfl (Y.load (v:=.slice A1 d0.data.length c1) rfl (by kernel_rfl) (eqC (cellT T (hca0 3 _ rfl))))<|RQ.y rfl (Y.len (by kernel_rfl) rfl)<|RQ.y rfl (Y.binI (v:=.bool (decide (i16 < (d0.data.length:Int)))) rfl rfl rfl)<|RQ.nil<|then_n ?_
          rcases bcases (decide (i16 < (d0.data.length:Int))) with c18|c18
          ·replace hm:=cF c18 hm
           have pc18:=of_decide_eq_false c18
           refine cond_f rfl (vb rfl c18)<|wp_exit ?_
           exact (then_x (then_x (hit_x ⟨_,rfl,⟨T,(by rw [hK1] at hm; exact hm)⟩⟩)))
          replace hm:=cT c18 hm
          have pc18:=of_decide_eq_true c18
          refine cond_t rfl (vb rfl c18)<|wp_skip<|then_n<|wp_seq<|wp_block<|wp_seq<|wp_rb rfl<|RQ.y rfl (Y.move (v:=.pointer (some ⟨ba0,oa0,none⟩)) s0_1)<|RQ.y rfl (Y.nilCheck rfl)<|RQ.y rfl (Y.fieldAddr (off:=3) rfl (by kernel_rfl))<|RQ.y rfl (Y.load (v:=.slice A1 d0.data.length c1) rfl (by kernel_rfl) (beC (cellT T (hca0 3 _ rfl))))<|RQ.y rfl (Y.move (v:=.int .i64 i16) s3_1) ?_
          obtain ⟨x19,hx22,hm⟩:=bnd hm
          obtain ⟨k20,hk23,hl24,hx22⟩:=getI_some hx22
          obtain ⟨b26,o27,rfl,hbb26⟩:=h1.addr (by omega)
          obtain ⟨cs21,hRcs21,hc25⟩:=h1.el hx22
          have hScs21:=hRcs21
          obtain rfl:=hRcs21
          refine RQ.y rfl (Y.indexAddr (m:=k20) (sz:=1) rfl rfl hk23 hl24 (by kernel_rfl))<|RQ.y rfl (Y.load (v:=.int .i64 x19) rfl (by kernel_rfl) (beC (cellT T (hc25 0 _ rfl)))) ?_
          obtain ⟨y28,e29,hm⟩:=bnd hm
          refine RQ.call rfl (am1 rfl) (by kernel_rfl) (v:=.bool y28) (bel (K:=fun _=>True) fun w' hb'=>(c_m_spec_l11Def x19 _ e29  w' ))<|RQ.y rfl (Y.not (b':=(!y28)) rfl rfl)<|RQ.nil ?_
          intro w30 hb31
          have szw30:=hb31.size
          have T:=Tt T hb31
          refine then_n ?_
          rcases bcases y28 with c32|c32
          ·replace hm:=cF c32 hm
           refine cond_t rfl (vbn rfl c32 rfl)<|wp_seq<|wp_rs rfl<|RQ.y rfl (Y.assign (v:=.bool false) rfl)<|RQ.nil<|then_n<|wp_ret ?_
           obtain rfl:=sj hm
           exact (blk_r (then_r (then_r (hit_r (blk_r (then_r (blk_r (then_r (ret1 rfl rfl rfl ⟨rfl,T⟩)))))))))
          replace hm:=cT c32 hm
          refine cond_f rfl (vbn rfl c32 rfl)<|wp_skip ?_
          refine blk_n (then_n ?_)
          refine wp_rs rfl<|RQ.y rfl (Y.move (v:=.int .i64 i16) s3_1)<|RQ.y rfl (Y.binI rfl rfl (binI_add (m:=i16) (by omega)))<|RQ.y rfl (Y.assign (v:=.int .i64 (i16+1)) rfl)<|RQ.nil ?_
          exact (then_n ⟨g,_,Nat.lt_succ_self _,rfl,⟨(i16+1),s0_1,rfl,(by omega),T,(by rw [← hrec1]; exact hm)⟩⟩)
         replace hm:=cT c12 hm
         iterate 6 refine RQ.skip (wantN (dj:=115) rfl (vb rfl c12) rfl) ?_
         iterate 7 refine RQ.skip rfl ?_
         refine RQ.skip (wantN (dj:=115) rfl (vb rfl c12) rfl)<|RQ.y rfl (Y.pick (b:=true) (v:=.bool true) (vb rfl c12) rfl)<|RQ.nil ?_
         intro w34 hb35
         have szw34:=hb35.size
         have T:=Tt T hb35
         refine then_n<|cond_t rfl rfl<|wp_seq<|wp_rs rfl<|RQ.y rfl (Y.assign (v:=.bool false) rfl)<|RQ.nil<|then_n<|wp_ret ?_
         obtain rfl:=sj hm
         exact (then_r (blk_r (then_r (ret1 rfl rfl rfl ⟨rfl,T⟩))))
        replace hm:=cT c11 hm
        iterate 6 refine RQ.skip (wantN (dj:=100) rfl (vb rfl c11) rfl) ?_
        iterate 6 refine RQ.skip rfl ?_
        refine RQ.skip (wantN (dj:=100) rfl (vb rfl c11) rfl)<|RQ.y rfl (Y.pick (b:=true) (v:=.bool true) (vb rfl c11) rfl)<|RQ.y rfl (Y.move (v:=.bool true) rfl) ?_
        iterate 6 refine RQ.skip (wantN (dj:=115) rfl rfl rfl) ?_
        iterate 7 refine RQ.skip rfl ?_
        refine RQ.skip (wantN (dj:=115) rfl rfl rfl)<|RQ.y rfl (Y.pick (b:=true) (v:=.bool true) rfl rfl)<|RQ.nil ?_
        intro w36 hb37
        have szw36:=hb37.size
        have T:=Tt T hb37
        refine then_n<|cond_t rfl rfl<|wp_seq<|wp_rs rfl<|RQ.y rfl (Y.assign (v:=.bool false) rfl)<|RQ.nil<|then_n<|wp_ret ?_
        obtain rfl:=sj hm
        exact (then_r (blk_r (then_r (ret1 rfl rfl rfl ⟨rfl,T⟩))))
       replace hm:=cT c8 hm
       refine cond_t rfl (vb rfl c8)<|wp_skip<|then_n<|cond_t rfl (vb rfl c8)<|wp_seq<|wp_seq<|wp_rb rfl<|RQ.y rfl (Y.move (v:=.pointer (some ⟨ba0,oa0,none⟩)) s0)<|RQ.y rfl (Y.nilCheck rfl)<|RQ.y rfl (Y.fieldAddr (off:=2) rfl (by kernel_rfl))<|RQ.y rfl (Y.load (v:=.int .i64 d0.value) rfl (by kernel_rfl) (beC (cellT T (hca0 2 _ rfl))))<|RQ.y rfl (Y.binI (v:=.bool (d0.value != 0)) rfl rfl rfl)<|RQ.y rfl (Y.move (v:=.bool (d0.value != 0)) rfl) ?_
       rcases bcases (d0.value != 0) with c38|c38
       ·replace hm:=cF c38 hm
        refine RQ.y (wantT (dj:=100) rfl (vb rfl c38)) (Y.move (v:=.pointer (some ⟨ba0,oa0,none⟩)) s0)<|RQ.y (wantT (dj:=100) rfl (vb rfl c38)) (Y.nilCheck rfl)<|RQ.y (wantT (dj:=100) rfl (vb rfl c38)) (Y.fieldAddr (off:=0) rfl (by kernel_rfl))<|RQ.y (wantT (dj:=100) rfl (vb rfl c38)) (Y.load (v:=.int .i64 d0.kind) rfl (by kernel_rfl) (beC (cellT T (hca0 0 _ rfl))))<|RQ.y (wantT (dj:=100) rfl (vb rfl c38)) (Y.binI (v:=.bool (d0.kind==11)) rfl rfl rfl)<|RQ.y (wantT (dj:=100) rfl (vb rfl c38)) (Y.move (v:=.bool (d0.kind==11)) rfl) ?_
        rcases bcases (d0.kind==11) with c39|c39
        ·replace hm:=cF c39 hm
         iterate 6 refine RQ.skip (wantN (dj:=106) rfl (vb rfl c39) rfl) ?_
         refine RQ.y (wantT (dj:=100) rfl (vb rfl c38)) (Y.pick (b:=false) (v:=.bool false) (vb rfl c39) rfl)<|RQ.y rfl (Y.pick (b:=false) (v:=.bool false) (vb rfl c38) rfl)<|RQ.y rfl (Y.move (v:=.bool false) rfl)<|RQ.y rfl (Y.move (v:=.pointer (some ⟨ba0,oa0,none⟩)) s0)<|RQ.y rfl (Y.nilCheck rfl)<|RQ.y rfl (Y.fieldAddr (off:=0) rfl (by kernel_rfl))<|RQ.y rfl (Y.load (v:=.int .i64 d0.kind) rfl (by kernel_rfl) (beC (cellT T (hca0 0 _ rfl))))<|RQ.y rfl (Y.binI (v:=.bool (d0.kind==10)) rfl rfl rfl)<|RQ.y rfl (Y.move (v:=.bool (d0.kind==10)) rfl)<|RQ.y (wantT (dj:=121) rfl (vb rfl c8)) (Y.move (v:=.pointer (some ⟨ba0,oa0,none⟩)) s0)<|RQ.y (wantT (dj:=121) rfl (vb rfl c8)) (Y.nilCheck rfl)<|RQ.y (wantT (dj:=121) rfl (vb rfl c8)) (Y.fieldAddr (off:=3) rfl (by kernel_rfl))<|RQ.y (wantT (dj:=121) rfl (vb rfl c8)) (Y.load (v:=.slice A1 d0.data.length c1) rfl (by kernel_rfl) (beC (cellT T (hca0 3 _ rfl))))<|RQ.y (wantT (dj:=121) rfl (vb rfl c8)) (Y.len (by kernel_rfl) rfl)<|RQ.call (wantT (dj:=121) rfl (vb rfl c8)) (am3 rfl rfl rfl) (by kernel_rfl) (v:=.bool (inR (d0.data.length:Int) 1 4)) (bel (K:=fun _=>True) fun w' hb'=>(callB (spec_l00In (d0.data.length:Int) 1 4 w')))<|RQ.y (wantT (dj:=121) rfl (vb rfl c8)) (Y.not (b':=(!(inR (d0.data.length:Int) 1 4))) rfl rfl)<|RQ.y rfl (Y.pick (b:=true) (v:=.bool (!(inR (d0.data.length:Int) 1 4))) (vb rfl c8) rfl)<|RQ.y rfl (Y.pick (b:=false) (v:=.bool (!(inR (d0.data.length:Int) 1 4))) rfl rfl)<|RQ.nil ?_
         intro w40 hb41
         have szw40:=hb41.size
         have T:=Tt T hb41
         refine then_n ?_
         rcases bcases (inR (d0.data.length:Int) 1 4) with c42|c42
         ·replace hm:=cF c42 hm
          refine cond_t rfl (vbn rfl c42 rfl)<|wp_seq<|wp_rs rfl<|RQ.y rfl (Y.assign (v:=.bool false) rfl)<|RQ.nil<|then_n<|wp_ret ?_
          obtain rfl:=sj hm
          exact (then_r (blk_r (then_r (ret1 rfl rfl rfl ⟨rfl,T⟩))))
         replace hm:=cT c42 hm
         refine cond_f rfl (vbn rfl c42 rfl)<|wp_skip<|then_n<|wp_seq<|wp_seq<|wp_rs rfl<|RQ.y rfl (Y.assign (v:=.int .i64 0) rfl)<|RQ.nil<|then_n<|wp_block ?_
         obtain ⟨K2,hK2,hm⟩ :∃K,K=m_spec_l11Content_A2∧m_spec_l11Content_L2 d0 K (d0.data.length+1) 0=some r:=⟨_,rfl,hm⟩
         refine wp_loopX (fun g f w'=>∃(i44:Int),f 0=.pointer (some ⟨ba0,oa0,none⟩)∧f 3=.int .i64 i44∧0≤i44∧Below w.heap.size w w'∧m_spec_l11Content_L2 d0 K2 g i44=some r) 1 (fun f w'=>Below w.heap.size w w'∧m_spec_l11Content_A2  = some r) (d0.data.length+1) ⟨0,s0,rfl,(by omega),T,hm⟩ ?_ ?_
         ·rintro f w43 ⟨T,hm⟩
          unfold m_spec_l11Content_A2 at hm
          refine blk_hit (then_n ?_)
          refine wp_seq<|wp_rs rfl<|RQ.y rfl (Y.assign (v:=.bool true) rfl)<|RQ.nil<|then_n<|wp_ret ?_
          obtain rfl:=sj hm
          exact (blk_r (then_r (ret1 rfl rfl rfl ⟨rfl,T⟩)))
         rintro g f w45 ⟨i44,s0_2,s3_2,nn3_2,T,hm⟩
         rcases g with _|g
         ·simp only [m_spec_l11Content_L2] at hm; cases hm
         obtain ⟨rec2,hrec2,hm⟩ :∃z,z=m_spec_l11Content_L2 d0 K2 g∧m_spec_l11Content_B2 d0 z K2 i44=some r:=⟨_,rfl,hm⟩
         unfold m_spec_l11Content_B2 at hm
         refine wp_seq<|wp_seq<|wp_rs rfl<|RQ.y rfl (Y.move (v:=.int .i64 i44) s3_2)<|RQ.y rfl (Y.move (v:=.pointer (some ⟨ba0,oa0,none⟩)) s0_2)<|RQ.y rfl (Y.nilCheck rfl)<|RQ.y rfl (Y.fieldAddr (off:=3) rfl (by kernel_rfl))<|RQ.y rfl (Y.load (v:=.slice A1 d0.data.length c1) rfl (by kernel_rfl) (eqC (cellT T (hca0 3 _ rfl))))<|RQ.y rfl (Y.len (by kernel_rfl) rfl)<|RQ.y rfl (Y.binI (v:=.bool (decide (i44 < (d0.data.length:Int)))) rfl rfl rfl)<|RQ.nil<|then_n ?_
         rcases bcases (decide (i44 < (d0.data.length:Int))) with c46|c46
         ·replace hm:=cF c46 hm
          have pc46:=of_decide_eq_false c46
          refine cond_f rfl (vb rfl c46)<|wp_exit ?_
          exact (then_x (then_x (hit_x ⟨_,rfl,⟨T,(by rw [hK2] at hm; exact hm)⟩⟩)))
         replace hm:=cT c46 hm
         have pc46:=of_decide_eq_true c46
         refine cond_t rfl (vb rfl c46)<|wp_skip<|then_n<|wp_seq<|wp_block<|wp_seq<|wp_rb rfl<|RQ.y rfl (Y.move (v:=.pointer (some ⟨ba0,oa0,none⟩)) s0_2)<|RQ.y rfl (Y.nilCheck rfl)<|RQ.y rfl (Y.fieldAddr (off:=3) rfl (by kernel_rfl))<|RQ.y rfl (Y.load (v:=.slice A1 d0.data.length c1) rfl (by kernel_rfl) (beC (cellT T (hca0 3 _ rfl))))<|RQ.y rfl (Y.move (v:=.int .i64 i44) s3_2) ?_
         obtain ⟨x47,hx50,hm⟩:=bnd hm
         obtain ⟨k48,hk51,hl52,hx50⟩:=getI_some hx50
         obtain ⟨b54,o55,rfl,hbb54⟩:=h1.addr (by omega)
         obtain ⟨cs49,hRcs49,hc53⟩:=h1.el hx50
         have hScs49:=hRcs49
         obtain rfl:=hRcs49
         refine RQ.y rfl (Y.indexAddr (m:=k48) (sz:=1) rfl rfl hk51 hl52 (by kernel_rfl))<|RQ.y rfl (Y.load (v:=.int .i64 x47) rfl (by kernel_rfl) (beC (cellT T (hc53 0 _ rfl)))) ?_
         obtain ⟨y56,e57,hm⟩:=bnd hm
         refine RQ.call rfl (am1 rfl) (by kernel_rfl) (v:=.bool y56) (bel (K:=fun _=>True) fun w' hb'=>(c_m_spec_l11Def x47 _ e57  w' ))<|RQ.y rfl (Y.not (b':=(!y56)) rfl rfl)<|RQ.nil ?_
         intro w58 hb59
         have szw58:=hb59.size
         have T:=Tt T hb59
         refine then_n ?_
         rcases bcases y56 with c60|c60
         ·replace hm:=cF c60 hm
          refine cond_t rfl (vbn rfl c60 rfl)<|wp_seq<|wp_rs rfl<|RQ.y rfl (Y.assign (v:=.bool false) rfl)<|RQ.nil<|then_n<|wp_ret ?_
          obtain rfl:=sj hm
          exact (blk_r (then_r (then_r (hit_r (blk_r (then_r (blk_r (then_r (ret1 rfl rfl rfl ⟨rfl,T⟩)))))))))
         replace hm:=cT c60 hm
         refine cond_f rfl (vbn rfl c60 rfl)<|wp_skip ?_
         refine blk_n (then_n ?_)
         refine wp_rs rfl<|RQ.y rfl (Y.move (v:=.int .i64 i44) s3_2)<|RQ.y rfl (Y.binI rfl rfl (binI_add (m:=i44) (by omega)))<|RQ.y rfl (Y.assign (v:=.int .i64 (i44+1)) rfl)<|RQ.nil ?_
         exact (then_n ⟨g,_,Nat.lt_succ_self _,rfl,⟨(i44+1),s0_2,rfl,(by omega),T,(by rw [← hrec2]; exact hm)⟩⟩)
        replace hm:=cT c39 hm
        refine RQ.y (wantT (dj:=106) rfl (vb rfl c39)) (Y.move (v:=.pointer (some ⟨ba0,oa0,none⟩)) s0)<|RQ.y (wantT (dj:=106) rfl (vb rfl c39)) (Y.nilCheck rfl)<|RQ.y (wantT (dj:=106) rfl (vb rfl c39)) (Y.fieldAddr (off:=3) rfl (by kernel_rfl))<|RQ.y (wantT (dj:=106) rfl (vb rfl c39)) (Y.load (v:=.slice A1 d0.data.length c1) rfl (by kernel_rfl) (beC (cellT T (hca0 3 _ rfl))))<|RQ.y (wantT (dj:=106) rfl (vb rfl c39)) (Y.len (by kernel_rfl) rfl)<|RQ.y (wantT (dj:=106) rfl (vb rfl c39)) (Y.binI (v:=.bool ((d0.data.length:Int) != 2)) rfl rfl rfl)<|RQ.y (wantT (dj:=100) rfl (vb rfl c38)) (Y.pick (b:=true) (v:=.bool ((d0.data.length:Int) != 2)) (vb rfl c39) rfl)<|RQ.y rfl (Y.pick (b:=false) (v:=.bool ((d0.data.length:Int) != 2)) (vb rfl c38) rfl)<|RQ.y rfl (Y.move (v:=.bool ((d0.data.length:Int) != 2)) rfl) ?_
        rcases bcases ((d0.data.length:Int) != 2) with c62|c62
        ·replace hm:=cF c62 hm
         refine RQ.y (wantT (dj:=115) rfl (vb rfl c62)) (Y.move (v:=.pointer (some ⟨ba0,oa0,none⟩)) s0)<|RQ.y (wantT (dj:=115) rfl (vb rfl c62)) (Y.nilCheck rfl)<|RQ.y (wantT (dj:=115) rfl (vb rfl c62)) (Y.fieldAddr (off:=0) rfl (by kernel_rfl))<|RQ.y (wantT (dj:=115) rfl (vb rfl c62)) (Y.load (v:=.int .i64 d0.kind) rfl (by kernel_rfl) (beC (cellT T (hca0 0 _ rfl))))<|RQ.y (wantT (dj:=115) rfl (vb rfl c62)) (Y.binI (v:=.bool (d0.kind==10)) rfl rfl rfl)<|RQ.y (wantT (dj:=115) rfl (vb rfl c62)) (Y.move (v:=.bool (d0.kind==10)) rfl)<|RQ.y (wantT (dj:=121) rfl (vb rfl c8)) (Y.move (v:=.pointer (some ⟨ba0,oa0,none⟩)) s0)<|RQ.y (wantT (dj:=121) rfl (vb rfl c8)) (Y.nilCheck rfl)<|RQ.y (wantT (dj:=121) rfl (vb rfl c8)) (Y.fieldAddr (off:=3) rfl (by kernel_rfl))<|RQ.y (wantT (dj:=121) rfl (vb rfl c8)) (Y.load (v:=.slice A1 d0.data.length c1) rfl (by kernel_rfl) (beC (cellT T (hca0 3 _ rfl))))<|RQ.y (wantT (dj:=121) rfl (vb rfl c8)) (Y.len (by kernel_rfl) rfl)<|RQ.call (wantT (dj:=121) rfl (vb rfl c8)) (am3 rfl rfl rfl) (by kernel_rfl) (v:=.bool (inR (d0.data.length:Int) 1 4)) (bel (K:=fun _=>True) fun w' hb'=>(callB (spec_l00In (d0.data.length:Int) 1 4 w')))<|RQ.y (wantT (dj:=121) rfl (vb rfl c8)) (Y.not (b':=(!(inR (d0.data.length:Int) 1 4))) rfl rfl)<|RQ.y (wantT (dj:=115) rfl (vb rfl c62)) (Y.pick (b:=true) (v:=.bool (!(inR (d0.data.length:Int) 1 4))) (vb rfl c8) rfl)<|RQ.y rfl (Y.pick (b:=false) (v:=.bool (!(inR (d0.data.length:Int) 1 4))) (vb rfl c62) rfl)<|RQ.nil ?_
         intro w63 hb64
         have szw63:=hb64.size
         have T:=Tt T hb64
         refine then_n ?_
         rcases bcases (inR (d0.data.length:Int) 1 4) with c65|c65
         ·replace hm:=cF c65 hm
          refine cond_t rfl (vbn rfl c65 rfl)<|wp_seq<|wp_rs rfl<|RQ.y rfl (Y.assign (v:=.bool false) rfl)<|RQ.nil<|then_n<|wp_ret ?_
          obtain rfl:=sj hm
          exact (then_r (blk_r (then_r (ret1 rfl rfl rfl ⟨rfl,T⟩))))
         replace hm:=cT c65 hm
         refine cond_f rfl (vbn rfl c65 rfl)<|wp_skip<|then_n<|wp_seq<|wp_seq<|wp_rs rfl<|RQ.y rfl (Y.assign (v:=.int .i64 0) rfl)<|RQ.nil<|then_n<|wp_block ?_
         obtain ⟨K3,hK3,hm⟩ :∃K,K=m_spec_l11Content_A3∧m_spec_l11Content_L3 d0 K (d0.data.length+1) 0=some r:=⟨_,rfl,hm⟩
         refine wp_loopX (fun g f w'=>∃(i67:Int),f 0=.pointer (some ⟨ba0,oa0,none⟩)∧f 3=.int .i64 i67∧0≤i67∧Below w.heap.size w w'∧m_spec_l11Content_L3 d0 K3 g i67=some r) 1 (fun f w'=>Below w.heap.size w w'∧m_spec_l11Content_A3  = some r) (d0.data.length+1) ⟨0,s0,rfl,(by omega),T,hm⟩ ?_ ?_
         ·rintro f w66 ⟨T,hm⟩
          unfold m_spec_l11Content_A3 at hm
          refine blk_hit (then_n ?_)
          refine wp_seq<|wp_rs rfl<|RQ.y rfl (Y.assign (v:=.bool true) rfl)<|RQ.nil<|then_n<|wp_ret ?_
          obtain rfl:=sj hm
          exact (blk_r (then_r (ret1 rfl rfl rfl ⟨rfl,T⟩)))
         rintro g f w68 ⟨i67,s0_3,s3_3,nn3_3,T,hm⟩
         rcases g with _|g
         ·simp only [m_spec_l11Content_L3] at hm; cases hm
         obtain ⟨rec3,hrec3,hm⟩ :∃z,z=m_spec_l11Content_L3 d0 K3 g∧m_spec_l11Content_B3 d0 z K3 i67=some r:=⟨_,rfl,hm⟩
         unfold m_spec_l11Content_B3 at hm
         refine wp_seq<|wp_seq<|wp_rs rfl<|RQ.y rfl (Y.move (v:=.int .i64 i67) s3_3)<|RQ.y rfl (Y.move (v:=.pointer (some ⟨ba0,oa0,none⟩)) s0_3)<|RQ.y rfl (Y.nilCheck rfl)<|RQ.y rfl (Y.fieldAddr (off:=3) rfl (by kernel_rfl))<|RQ.y rfl (Y.load (v:=.slice A1 d0.data.length c1) rfl (by kernel_rfl) (eqC (cellT T (hca0 3 _ rfl))))<|RQ.y rfl (Y.len (by kernel_rfl) rfl)<|RQ.y rfl (Y.binI (v:=.bool (decide (i67 < (d0.data.length:Int)))) rfl rfl rfl)<|RQ.nil<|then_n ?_
         rcases bcases (decide (i67 < (d0.data.length:Int))) with c69|c69
         ·replace hm:=cF c69 hm
          have pc69:=of_decide_eq_false c69
          refine cond_f rfl (vb rfl c69)<|wp_exit ?_
          exact (then_x (then_x (hit_x ⟨_,rfl,⟨T,(by rw [hK3] at hm; exact hm)⟩⟩)))
         replace hm:=cT c69 hm
         have pc69:=of_decide_eq_true c69
         refine cond_t rfl (vb rfl c69)<|wp_skip<|then_n<|wp_seq<|wp_block<|wp_seq<|wp_rb rfl<|RQ.y rfl (Y.move (v:=.pointer (some ⟨ba0,oa0,none⟩)) s0_3)<|RQ.y rfl (Y.nilCheck rfl)<|RQ.y rfl (Y.fieldAddr (off:=3) rfl (by kernel_rfl))<|RQ.y rfl (Y.load (v:=.slice A1 d0.data.length c1) rfl (by kernel_rfl) (beC (cellT T (hca0 3 _ rfl))))<|RQ.y rfl (Y.move (v:=.int .i64 i67) s3_3) ?_
         obtain ⟨x70,hx73,hm⟩:=bnd hm
         obtain ⟨k71,hk74,hl75,hx73⟩:=getI_some hx73
         obtain ⟨b77,o78,rfl,hbb77⟩:=h1.addr (by omega)
         obtain ⟨cs72,hRcs72,hc76⟩:=h1.el hx73
         have hScs72:=hRcs72
         obtain rfl:=hRcs72
         refine RQ.y rfl (Y.indexAddr (m:=k71) (sz:=1) rfl rfl hk74 hl75 (by kernel_rfl))<|RQ.y rfl (Y.load (v:=.int .i64 x70) rfl (by kernel_rfl) (beC (cellT T (hc76 0 _ rfl)))) ?_
         obtain ⟨y79,e80,hm⟩:=bnd hm
         refine RQ.call rfl (am1 rfl) (by kernel_rfl) (v:=.bool y79) (bel (K:=fun _=>True) fun w' hb'=>(c_m_spec_l11Def x70 _ e80  w' ))<|RQ.y rfl (Y.not (b':=(!y79)) rfl rfl)<|RQ.nil ?_
         intro w81 hb82
         have szw81:=hb82.size
         have T:=Tt T hb82
         refine then_n ?_
         rcases bcases y79 with c83|c83
         ·replace hm:=cF c83 hm
          refine cond_t rfl (vbn rfl c83 rfl)<|wp_seq<|wp_rs rfl<|RQ.y rfl (Y.assign (v:=.bool false) rfl)<|RQ.nil<|then_n<|wp_ret ?_
          obtain rfl:=sj hm
          exact (blk_r (then_r (then_r (hit_r (blk_r (then_r (blk_r (then_r (ret1 rfl rfl rfl ⟨rfl,T⟩)))))))))
         replace hm:=cT c83 hm
         refine cond_f rfl (vbn rfl c83 rfl)<|wp_skip ?_
         refine blk_n (then_n ?_)
         refine wp_rs rfl<|RQ.y rfl (Y.move (v:=.int .i64 i67) s3_3)<|RQ.y rfl (Y.binI rfl rfl (binI_add (m:=i67) (by omega)))<|RQ.y rfl (Y.assign (v:=.int .i64 (i67+1)) rfl)<|RQ.nil ?_
         exact (then_n ⟨g,_,Nat.lt_succ_self _,rfl,⟨(i67+1),s0_3,rfl,(by omega),T,(by rw [← hrec3]; exact hm)⟩⟩)
        replace hm:=cT c62 hm
        iterate 6 refine RQ.skip (wantN (dj:=115) rfl (vb rfl c62) rfl) ?_
        iterate 7 refine RQ.skip rfl ?_
        refine RQ.skip (wantN (dj:=115) rfl (vb rfl c62) rfl)<|RQ.y rfl (Y.pick (b:=true) (v:=.bool true) (vb rfl c62) rfl)<|RQ.nil ?_
        intro w85 hb86
        have szw85:=hb86.size
        have T:=Tt T hb86
        refine then_n<|cond_t rfl rfl<|wp_seq<|wp_rs rfl<|RQ.y rfl (Y.assign (v:=.bool false) rfl)<|RQ.nil<|then_n<|wp_ret ?_
        obtain rfl:=sj hm
        exact (then_r (blk_r (then_r (ret1 rfl rfl rfl ⟨rfl,T⟩))))
       replace hm:=cT c38 hm
       iterate 6 refine RQ.skip (wantN (dj:=100) rfl (vb rfl c38) rfl) ?_
       iterate 6 refine RQ.skip rfl ?_
       refine RQ.skip (wantN (dj:=100) rfl (vb rfl c38) rfl)<|RQ.y rfl (Y.pick (b:=true) (v:=.bool true) (vb rfl c38) rfl)<|RQ.y rfl (Y.move (v:=.bool true) rfl) ?_
       iterate 6 refine RQ.skip (wantN (dj:=115) rfl rfl rfl) ?_
       iterate 7 refine RQ.skip rfl ?_
       refine RQ.skip (wantN (dj:=115) rfl rfl rfl)<|RQ.y rfl (Y.pick (b:=true) (v:=.bool true) rfl rfl)<|RQ.nil ?_
       intro w87 hb88
       have szw87:=hb88.size
       have T:=Tt T hb88
       refine then_n<|cond_t rfl rfl<|wp_seq<|wp_rs rfl<|RQ.y rfl (Y.assign (v:=.bool false) rfl)<|RQ.nil<|then_n<|wp_ret ?_
       obtain rfl:=sj hm
       exact (then_r (blk_r (then_r (ret1 rfl rfl rfl ⟨rfl,T⟩))))
      replace hm:=cT c7 hm
      refine cond_t rfl (vb rfl c7)<|wp_seq<|wp_rb rfl<|RQ.y rfl (Y.move (v:=.pointer (some ⟨ba0,oa0,none⟩)) s0)<|RQ.y rfl (Y.nilCheck rfl)<|RQ.y rfl (Y.fieldAddr (off:=3) rfl (by kernel_rfl))<|RQ.y rfl (Y.load (v:=.slice A1 d0.data.length c1) rfl (by kernel_rfl) (beC (cellT T (hca0 3 _ rfl))))<|RQ.y rfl (Y.len (by kernel_rfl) rfl)<|RQ.y rfl (Y.binI (v:=.bool ((d0.data.length:Int)==0)) rfl rfl rfl)<|RQ.y rfl (Y.move (v:=.bool ((d0.data.length:Int)==0)) rfl) ?_
      rcases bcases ((d0.data.length:Int)==0) with c89|c89
      ·replace hm:=cF c89 hm
       iterate 5 refine RQ.skip (wantN (dj:=85) rfl (vb rfl c89) rfl) ?_
       refine RQ.y rfl (Y.pick (b:=false) (v:=.bool false) (vb rfl c89) rfl)<|RQ.y rfl (Y.assign (v:=.bool false) rfl)<|RQ.nil ?_
       intro w90 hb91
       have szw90:=hb91.size
       have T:=Tt T hb91
       refine then_n<|wp_ret ?_
       obtain rfl:=sj hm
       exact (blk_r (then_r (ret1 rfl rfl rfl ⟨rfl,T⟩)))
      replace hm:=cT c89 hm
      refine RQ.y (wantT (dj:=85) rfl (vb rfl c89)) (Y.move (v:=.pointer (some ⟨ba0,oa0,none⟩)) s0)<|RQ.y (wantT (dj:=85) rfl (vb rfl c89)) (Y.nilCheck rfl)<|RQ.y (wantT (dj:=85) rfl (vb rfl c89)) (Y.fieldAddr (off:=2) rfl (by kernel_rfl))<|RQ.y (wantT (dj:=85) rfl (vb rfl c89)) (Y.load (v:=.int .i64 d0.value) rfl (by kernel_rfl) (beC (cellT T (hca0 2 _ rfl)))) ?_
      obtain ⟨y92,e93,hm⟩:=bnd hm
      refine RQ.call (wantT (dj:=85) rfl (vb rfl c89)) (am1 rfl) (by kernel_rfl) (v:=.bool y92) (bel (K:=fun _=>True) fun w' hb'=>(c_m_spec_l11Def d0.value _ e93  w' ))<|RQ.y rfl (Y.pick (b:=true) (v:=.bool y92) (vb rfl c89) rfl)<|RQ.y rfl (Y.assign (v:=.bool y92) rfl)<|RQ.nil ?_
      intro w94 hb95
      have szw94:=hb95.size
      have T:=Tt T hb95
      refine then_n<|wp_ret ?_
      obtain rfl:=sj hm
      exact (blk_r (then_r (ret1 rfl rfl rfl ⟨rfl,T⟩)))
     replace hm:=cT c6 hm
     refine cond_t rfl (vb rfl c6)<|wp_seq<|wp_rb rfl<|RQ.y rfl (Y.move (v:=.pointer (some ⟨ba0,oa0,none⟩)) s0)<|RQ.y rfl (Y.nilCheck rfl)<|RQ.y rfl (Y.fieldAddr (off:=3) rfl (by kernel_rfl))<|RQ.y rfl (Y.load (v:=.slice A1 d0.data.length c1) rfl (by kernel_rfl) (beC (cellT T (hca0 3 _ rfl))))<|RQ.y rfl (Y.len (by kernel_rfl) rfl)<|RQ.y rfl (Y.binI (v:=.bool ((d0.data.length:Int)==0)) rfl rfl rfl)<|RQ.y rfl (Y.move (v:=.bool ((d0.data.length:Int)==0)) rfl) ?_
     rcases bcases ((d0.data.length:Int)==0) with c96|c96
     ·replace hm:=cF c96 hm
      iterate 5 refine RQ.skip (wantN (dj:=70) rfl (vb rfl c96) rfl) ?_
      refine RQ.y rfl (Y.pick (b:=false) (v:=.bool false) (vb rfl c96) rfl)<|RQ.y rfl (Y.assign (v:=.bool false) rfl)<|RQ.nil ?_
      intro w97 hb98
      have szw97:=hb98.size
      have T:=Tt T hb98
      refine then_n<|wp_ret ?_
      obtain rfl:=sj hm
      exact (blk_r (then_r (ret1 rfl rfl rfl ⟨rfl,T⟩)))
     replace hm:=cT c96 hm
     refine RQ.y (wantT (dj:=70) rfl (vb rfl c96)) (Y.move (v:=.pointer (some ⟨ba0,oa0,none⟩)) s0)<|RQ.y (wantT (dj:=70) rfl (vb rfl c96)) (Y.nilCheck rfl)<|RQ.y (wantT (dj:=70) rfl (vb rfl c96)) (Y.fieldAddr (off:=2) rfl (by kernel_rfl))<|RQ.y (wantT (dj:=70) rfl (vb rfl c96)) (Y.load (v:=.int .i64 d0.value) rfl (by kernel_rfl) (beC (cellT T (hca0 2 _ rfl))))<|RQ.call (wantT (dj:=70) rfl (vb rfl c96)) (am3 rfl rfl rfl) (by kernel_rfl) (v:=.bool (inR d0.value 0 3)) (bel (K:=fun _=>True) fun w' hb'=>(callB (spec_l00In d0.value 0 3 w')))<|RQ.y rfl (Y.pick (b:=true) (v:=.bool (inR d0.value 0 3)) (vb rfl c96) rfl)<|RQ.y rfl (Y.assign (v:=.bool (inR d0.value 0 3)) rfl)<|RQ.nil ?_
     intro w99 hb100
     have szw99:=hb100.size
     have T:=Tt T hb100
     refine then_n<|wp_ret ?_
     obtain rfl:=sj hm
     exact (blk_r (then_r (ret1 rfl rfl rfl ⟨rfl,T⟩)))
    replace hm:=cT c5 hm
    refine cond_t rfl (vb rfl c5)<|wp_seq<|wp_rb rfl<|RQ.y rfl (Y.move (v:=.pointer (some ⟨ba0,oa0,none⟩)) s0)<|RQ.y rfl (Y.nilCheck rfl)<|RQ.y rfl (Y.fieldAddr (off:=3) rfl (by kernel_rfl))<|RQ.y rfl (Y.load (v:=.slice A1 d0.data.length c1) rfl (by kernel_rfl) (beC (cellT T (hca0 3 _ rfl))))<|RQ.y rfl (Y.len (by kernel_rfl) rfl)<|RQ.y rfl (Y.binI (v:=.bool ((d0.data.length:Int)==1)) rfl rfl rfl)<|RQ.y rfl (Y.move (v:=.bool ((d0.data.length:Int)==1)) rfl) ?_
    rcases bcases ((d0.data.length:Int)==1) with c101|c101
    ·replace hm:=cF c101 hm
     iterate 5 refine RQ.skip (wantN (dj:=46) rfl (vb rfl c101) rfl) ?_
     refine RQ.y rfl (Y.pick (b:=false) (v:=.bool false) (vb rfl c101) rfl)<|RQ.y rfl (Y.move (v:=.bool false) rfl) ?_
     iterate 7 refine RQ.skip (wantN (dj:=53) rfl rfl rfl) ?_
     refine RQ.y rfl (Y.pick (b:=false) (v:=.bool false) rfl rfl)<|RQ.y rfl (Y.assign (v:=.bool false) rfl)<|RQ.nil ?_
     intro w102 hb103
     have szw102:=hb103.size
     have T:=Tt T hb103
     refine then_n<|wp_ret ?_
     obtain rfl:=sj hm
     exact (blk_r (then_r (ret1 rfl rfl rfl ⟨rfl,T⟩)))
    replace hm:=cT c101 hm
    refine RQ.y (wantT (dj:=46) rfl (vb rfl c101)) (Y.move (v:=.pointer (some ⟨ba0,oa0,none⟩)) s0)<|RQ.y (wantT (dj:=46) rfl (vb rfl c101)) (Y.nilCheck rfl)<|RQ.y (wantT (dj:=46) rfl (vb rfl c101)) (Y.fieldAddr (off:=2) rfl (by kernel_rfl))<|RQ.y (wantT (dj:=46) rfl (vb rfl c101)) (Y.load (v:=.int .i64 d0.value) rfl (by kernel_rfl) (beC (cellT T (hca0 2 _ rfl))))<|RQ.call (wantT (dj:=46) rfl (vb rfl c101)) (am3 rfl rfl rfl) (by kernel_rfl) (v:=.bool (inR d0.value 1 6)) (bel (K:=fun _=>True) fun w' hb'=>(callB (spec_l00In d0.value 1 6 w')))<|RQ.y rfl (Y.pick (b:=true) (v:=.bool (inR d0.value 1 6)) (vb rfl c101) rfl)<|RQ.y rfl (Y.move (v:=.bool (inR d0.value 1 6)) rfl) ?_
    rcases bcases (inR d0.value 1 6) with c104|c104
    ·replace hm:=cF c104 hm
     iterate 7 refine RQ.skip (wantN (dj:=53) rfl (vb rfl c104) rfl) ?_
     refine RQ.y rfl (Y.pick (b:=false) (v:=.bool false) (vb rfl c104) rfl)<|RQ.y rfl (Y.assign (v:=.bool false) rfl)<|RQ.nil ?_
     intro w105 hb106
     have szw105:=hb106.size
     have T:=Tt T hb106
     refine then_n<|wp_ret ?_
     obtain rfl:=sj hm
     exact (blk_r (then_r (ret1 rfl rfl rfl ⟨rfl,T⟩)))
    replace hm:=cT c104 hm
    refine RQ.y (wantT (dj:=53) rfl (vb rfl c104)) (Y.move (v:=.pointer (some ⟨ba0,oa0,none⟩)) s0)<|RQ.y (wantT (dj:=53) rfl (vb rfl c104)) (Y.nilCheck rfl)<|RQ.y (wantT (dj:=53) rfl (vb rfl c104)) (Y.fieldAddr (off:=3) rfl (by kernel_rfl))<|RQ.y (wantT (dj:=53) rfl (vb rfl c104)) (Y.load (v:=.slice A1 d0.data.length c1) rfl (by kernel_rfl) (beC (cellT T (hca0 3 _ rfl)))) ?_
    obtain ⟨x107,hx110,hm⟩:=bnd hm
    obtain ⟨k108,hk111,hl112,hx110⟩:=getI_some hx110
    obtain ⟨b114,o115,rfl,hbb114⟩:=h1.addr (by omega)
    obtain ⟨cs109,hRcs109,hc113⟩:=h1.el hx110
    have hScs109:=hRcs109
    obtain rfl:=hRcs109
    refine RQ.y (wantT (dj:=53) rfl (vb rfl c104)) (Y.indexAddr (m:=k108) (sz:=1) rfl rfl hk111 hl112 (by kernel_rfl))<|RQ.y (wantT (dj:=53) rfl (vb rfl c104)) (Y.load (v:=.int .i64 x107) rfl (by kernel_rfl) (beC (cellT T (hc113 0 _ rfl))))<|RQ.call (wantT (dj:=53) rfl (vb rfl c104)) (am3 rfl rfl rfl) (by kernel_rfl) (v:=.bool (inR x107 (-2147483648) 2147483647)) (bel (K:=fun _=>True) fun w' hb'=>(callB (spec_l00In x107 (-2147483648) 2147483647 w')))<|RQ.y rfl (Y.pick (b:=true) (v:=.bool (inR x107 (-2147483648) 2147483647)) (vb rfl c104) rfl)<|RQ.y rfl (Y.assign (v:=.bool (inR x107 (-2147483648) 2147483647)) rfl)<|RQ.nil ?_
    intro w116 hb117
    have szw116:=hb117.size
    have T:=Tt T hb117
    refine then_n<|wp_ret ?_
    obtain rfl:=sj hm
    exact (blk_r (then_r (ret1 rfl rfl rfl ⟨rfl,T⟩)))
   replace hm:=cT c4 hm
   refine cond_t rfl (vb rfl c4)<|wp_seq<|wp_rb rfl<|RQ.y rfl (Y.move (v:=.pointer (some ⟨ba0,oa0,none⟩)) s0)<|RQ.y rfl (Y.nilCheck rfl)<|RQ.y rfl (Y.fieldAddr (off:=3) rfl (by kernel_rfl))<|RQ.y rfl (Y.load (v:=.slice A1 d0.data.length c1) rfl (by kernel_rfl) (beC (cellT T (hca0 3 _ rfl))))<|RQ.y rfl (Y.len (by kernel_rfl) rfl)<|RQ.y rfl (Y.binI (v:=.bool ((d0.data.length:Int)==0)) rfl rfl rfl)<|RQ.y rfl (Y.move (v:=.bool ((d0.data.length:Int)==0)) rfl) ?_
   rcases bcases ((d0.data.length:Int)==0) with c118|c118
   ·replace hm:=cF c118 hm
    iterate 5 refine RQ.skip (wantN (dj:=31) rfl (vb rfl c118) rfl) ?_
    refine RQ.y rfl (Y.pick (b:=false) (v:=.bool false) (vb rfl c118) rfl)<|RQ.y rfl (Y.assign (v:=.bool false) rfl)<|RQ.nil ?_
    intro w119 hb120
    have szw119:=hb120.size
    have T:=Tt T hb120
    refine then_n<|wp_ret ?_
    obtain rfl:=sj hm
    exact (blk_r (then_r (ret1 rfl rfl rfl ⟨rfl,T⟩)))
   replace hm:=cT c118 hm
   refine RQ.y (wantT (dj:=31) rfl (vb rfl c118)) (Y.move (v:=.pointer (some ⟨ba0,oa0,none⟩)) s0)<|RQ.y (wantT (dj:=31) rfl (vb rfl c118)) (Y.nilCheck rfl)<|RQ.y (wantT (dj:=31) rfl (vb rfl c118)) (Y.fieldAddr (off:=2) rfl (by kernel_rfl))<|RQ.y (wantT (dj:=31) rfl (vb rfl c118)) (Y.load (v:=.int .i64 d0.value) rfl (by kernel_rfl) (beC (cellT T (hca0 2 _ rfl))))<|RQ.call (wantT (dj:=31) rfl (vb rfl c118)) (am3 rfl rfl rfl) (by kernel_rfl) (v:=.bool (inR d0.value 1 6)) (bel (K:=fun _=>True) fun w' hb'=>(callB (spec_l00In d0.value 1 6 w')))<|RQ.y rfl (Y.pick (b:=true) (v:=.bool (inR d0.value 1 6)) (vb rfl c118) rfl)<|RQ.y rfl (Y.assign (v:=.bool (inR d0.value 1 6)) rfl)<|RQ.nil ?_
   intro w121 hb122
   have szw121:=hb122.size
   have T:=Tt T hb122
   refine then_n<|wp_ret ?_
   obtain rfl:=sj hm
   exact (blk_r (then_r (ret1 rfl rfl rfl ⟨rfl,T⟩)))
  replace hm:=cT c3 hm
  refine cond_t rfl (vb rfl c3)<|wp_seq<|wp_rb rfl<|RQ.y rfl (Y.move (v:=.pointer (some ⟨ba0,oa0,none⟩)) s0)<|RQ.y rfl (Y.nilCheck rfl)<|RQ.y rfl (Y.fieldAddr (off:=3) rfl (by kernel_rfl))<|RQ.y rfl (Y.load (v:=.slice A1 d0.data.length c1) rfl (by kernel_rfl) (beC (cellT T (hca0 3 _ rfl))))<|RQ.y rfl (Y.len (by kernel_rfl) rfl)<|RQ.y rfl (Y.binI (v:=.bool ((d0.data.length:Int)==0)) rfl rfl rfl)<|RQ.y rfl (Y.move (v:=.bool ((d0.data.length:Int)==0)) rfl) ?_
  rcases bcases ((d0.data.length:Int)==0) with c123|c123
  ·replace hm:=cF c123 hm
   iterate 5 refine RQ.skip (wantN (dj:=16) rfl (vb rfl c123) rfl) ?_
   refine RQ.y rfl (Y.pick (b:=false) (v:=.bool false) (vb rfl c123) rfl)<|RQ.y rfl (Y.assign (v:=.bool false) rfl)<|RQ.nil ?_
   intro w124 hb125
   have szw124:=hb125.size
   have T:=Tt T hb125
   refine then_n<|wp_ret ?_
   obtain rfl:=sj hm
   exact (blk_r (then_r (ret1 rfl rfl rfl ⟨rfl,T⟩)))
  replace hm:=cT c123 hm
  refine RQ.y (wantT (dj:=16) rfl (vb rfl c123)) (Y.move (v:=.pointer (some ⟨ba0,oa0,none⟩)) s0)<|RQ.y (wantT (dj:=16) rfl (vb rfl c123)) (Y.nilCheck rfl)<|RQ.y (wantT (dj:=16) rfl (vb rfl c123)) (Y.fieldAddr (off:=2) rfl (by kernel_rfl))<|RQ.y (wantT (dj:=16) rfl (vb rfl c123)) (Y.load (v:=.int .i64 d0.value) rfl (by kernel_rfl) (beC (cellT T (hca0 2 _ rfl))))<|RQ.call (wantT (dj:=16) rfl (vb rfl c123)) (am3 rfl rfl rfl) (by kernel_rfl) (v:=.bool (inR d0.value (-2147483648) 2147483647)) (bel (K:=fun _=>True) fun w' hb'=>(callB (spec_l00In d0.value (-2147483648) 2147483647 w')))<|RQ.y rfl (Y.pick (b:=true) (v:=.bool (inR d0.value (-2147483648) 2147483647)) (vb rfl c123) rfl)<|RQ.y rfl (Y.assign (v:=.bool (inR d0.value (-2147483648) 2147483647)) rfl)<|RQ.nil ?_
  intro w126 hb127
  have szw126:=hb127.size
  have T:=Tt T hb127
  refine then_n<|wp_ret ?_
  obtain rfl:=sj hm
  exact (blk_r (then_r (ret1 rfl rfl rfl ⟨rfl,T⟩)))
def m_spec_l11Agent (d0:DAgent):Option Bool:=
  ((m_spec_l11Fields d0).bind fun y3=>(bif (decide ((portsOf d0.kind y3) > 0)) then (bif ((d0.ports.length:Int)==(portsOf d0.kind y3)) then (bif (allowed d0.kind d0.level) then ((m_spec_l11Content d0).bind fun y16=>some y16) else some false) else some false) else some false))
set_option maxHeartbeats 2000000 in
theorem c_m_spec_l11Agent (d0:DAgent) (r:Bool) (hm:m_spec_l11Agent d0=some r) (v0:Value) (w:World) (hv0:Pt agentRd w v0 d0) :
    Calls Tryz.prog 58 #[v0] w fun e w'=>e=.returned (.bool r)∧Below w.heap.size w w':=by
  obtain ⟨ba0,oa0,csa0,rfl,hba0,hRa0,hca0⟩:=hv0
  have hSa0:=hRa0
  obtain ⟨A1,n1,c1,A2,n2,c2,rfl,⟨h1,r1⟩,⟨h2,r2⟩⟩:=hRa0
  have e1:=h1.len; subst e1
  have q1:=len_le r1
  have e2:=h2.len; subst e2
  have q2:=len_le r2
  have T:=Below.refl w.heap.size w
  unfold m_spec_l11Agent at hm
  refine enter 37 Tryz.func58 rfl rfl rfl ?_
  intro f hf
  have s0:f 0=.pointer (some ⟨ba0,oa0,none⟩):=hf 0 _ rfl
  refine wp_seq<|wp_rs rfl<|RQ.y rfl (Y.assign (v:=.bool false) rfl)<|RQ.nil<|then_n<|wp_seq<|wp_rbd (by kernel_rfl) (by kernel_rfl)<|RQ.y rfl (Y.move (v:=.pointer (some ⟨ba0,oa0,none⟩)) s0)<|RQ.y rfl (Y.nilCheck rfl)<|RQ.y rfl (Y.fieldAddr (off:=0) rfl (by kernel_rfl))<|RQ.y rfl (Y.load (v:=.int .i64 d0.kind) rfl (by kernel_rfl) (beC (cellT T (hca0 0 _ rfl))))<|RQ.y rfl (Y.move (v:=.pointer (some ⟨ba0,oa0,none⟩)) s0) ?_
  obtain ⟨y3,e4,hm⟩:=bnd hm
  refine RQ.call rfl (am1 rfl) (by kernel_rfl) (v:=.int .i64 y3) (bel (K:=fun _=>True) fun w' hb'=>(c_m_spec_l11Fields d0 _ e4 _ w' (ptArg agentRd_ok hba0 hSa0 hca0 (Tt T hb'))))<|RQ.call rfl (am2 rfl rfl) (by kernel_rfl) (v:=.int .i64 (portsOf d0.kind y3)) (bel (K:=fun _=>True) fun w' hb'=>(callB (spec_PortsOf d0.kind y3 w')))<|RQ.y rfl (Y.assign (v:=.int .i64 (portsOf d0.kind y3)) rfl)<|RQ.nil ?_
  intro w5 hb6
  have szw5:=hb6.size
  have T:=Tt T hb6
  refine then_n<|wp_seq<|wp_rbd (by kernel_rfl) (by kernel_rfl)<|RQ.y rfl (Y.move (v:=.int .i64 (portsOf d0.kind y3)) rfl)<|RQ.y rfl (Y.binI (v:=.bool (decide ((portsOf d0.kind y3) > 0))) rfl rfl rfl)<|RQ.y rfl (Y.move (v:=.bool (decide ((portsOf d0.kind y3) > 0))) rfl) ?_
  rcases bcases (decide ((portsOf d0.kind y3) > 0)) with c7|c7
  ·replace hm:=cF c7 hm
   have pc7:=of_decide_eq_false c7
   iterate 7 refine RQ.skip (wantN (dj:=13) rfl (vb rfl c7) rfl) ?_
   refine RQ.y rfl (Y.pick (b:=false) (v:=.bool false) (vb rfl c7) rfl)<|RQ.y rfl (Y.move (v:=.bool false) rfl) ?_
   iterate 9 refine RQ.skip (wantN (dj:=22) rfl rfl rfl) ?_
   refine RQ.y rfl (Y.pick (b:=false) (v:=.bool false) rfl rfl)<|RQ.y rfl (Y.move (v:=.bool false) rfl)<|RQ.skip (wantN (dj:=33) rfl rfl rfl)<|RQ.skip (wantN (dj:=33) rfl rfl rfl)<|RQ.y rfl (Y.pick (b:=false) (v:=.bool false) rfl rfl)<|RQ.y rfl (Y.assign (v:=.bool false) rfl)<|RQ.nil ?_
   intro w8 hb9
   have szw8:=hb9.size
   have T:=Tt T hb9
   refine then_n<|wp_ret ?_
   obtain rfl:=sj hm
   exact (ret1 rfl rfl rfl ⟨rfl,T⟩)
  replace hm:=cT c7 hm
  have pc7:=of_decide_eq_true c7
  refine RQ.y (wantT (dj:=13) rfl (vb rfl c7)) (Y.move (v:=.pointer (some ⟨ba0,oa0,none⟩)) s0)<|RQ.y (wantT (dj:=13) rfl (vb rfl c7)) (Y.nilCheck rfl)<|RQ.y (wantT (dj:=13) rfl (vb rfl c7)) (Y.fieldAddr (off:=4) rfl (by kernel_rfl))<|RQ.y (wantT (dj:=13) rfl (vb rfl c7)) (Y.load (v:=.slice A2 d0.ports.length c2) rfl (by kernel_rfl) (beC (cellT T (hca0 4 _ rfl))))<|RQ.y (wantT (dj:=13) rfl (vb rfl c7)) (Y.len (by kernel_rfl) rfl)<|RQ.y (wantT (dj:=13) rfl (vb rfl c7)) (Y.move (v:=.int .i64 (portsOf d0.kind y3)) rfl)<|RQ.y (wantT (dj:=13) rfl (vb rfl c7)) (Y.binI (v:=.bool ((d0.ports.length:Int)==(portsOf d0.kind y3))) rfl rfl rfl)<|RQ.y rfl (Y.pick (b:=true) (v:=.bool ((d0.ports.length:Int)==(portsOf d0.kind y3))) (vb rfl c7) rfl)<|RQ.y rfl (Y.move (v:=.bool ((d0.ports.length:Int)==(portsOf d0.kind y3))) rfl) ?_
  rcases bcases ((d0.ports.length:Int)==(portsOf d0.kind y3)) with c10|c10
  ·replace hm:=cF c10 hm
   iterate 9 refine RQ.skip (wantN (dj:=22) rfl (vb rfl c10) rfl) ?_
   refine RQ.y rfl (Y.pick (b:=false) (v:=.bool false) (vb rfl c10) rfl)<|RQ.y rfl (Y.move (v:=.bool false) rfl)<|RQ.skip (wantN (dj:=33) rfl rfl rfl)<|RQ.skip (wantN (dj:=33) rfl rfl rfl)<|RQ.y rfl (Y.pick (b:=false) (v:=.bool false) rfl rfl)<|RQ.y rfl (Y.assign (v:=.bool false) rfl)<|RQ.nil ?_
   intro w11 hb12
   have szw11:=hb12.size
   have T:=Tt T hb12
   refine then_n<|wp_ret ?_
   obtain rfl:=sj hm
   exact (ret1 rfl rfl rfl ⟨rfl,T⟩)
  replace hm:=cT c10 hm
  refine RQ.y (wantT (dj:=22) rfl (vb rfl c10)) (Y.move (v:=.pointer (some ⟨ba0,oa0,none⟩)) s0)<|RQ.y (wantT (dj:=22) rfl (vb rfl c10)) (Y.nilCheck rfl)<|RQ.y (wantT (dj:=22) rfl (vb rfl c10)) (Y.fieldAddr (off:=0) rfl (by kernel_rfl))<|RQ.y (wantT (dj:=22) rfl (vb rfl c10)) (Y.load (v:=.int .i64 d0.kind) rfl (by kernel_rfl) (beC (cellT T (hca0 0 _ rfl))))<|RQ.y (wantT (dj:=22) rfl (vb rfl c10)) (Y.move (v:=.pointer (some ⟨ba0,oa0,none⟩)) s0)<|RQ.y (wantT (dj:=22) rfl (vb rfl c10)) (Y.nilCheck rfl)<|RQ.y (wantT (dj:=22) rfl (vb rfl c10)) (Y.fieldAddr (off:=1) rfl (by kernel_rfl))<|RQ.y (wantT (dj:=22) rfl (vb rfl c10)) (Y.load (v:=.int .i64 d0.level) rfl (by kernel_rfl) (beC (cellT T (hca0 1 _ rfl))))<|RQ.call (wantT (dj:=22) rfl (vb rfl c10)) (am2 rfl rfl) (by kernel_rfl) (v:=.bool (allowed d0.kind d0.level)) (bel (K:=fun _=>True) fun w' hb'=>(callB (spec_l10Level d0.kind d0.level w')))<|RQ.y rfl (Y.pick (b:=true) (v:=.bool (allowed d0.kind d0.level)) (vb rfl c10) rfl)<|RQ.y rfl (Y.move (v:=.bool (allowed d0.kind d0.level)) rfl) ?_
  rcases bcases (allowed d0.kind d0.level) with c13|c13
  ·replace hm:=cF c13 hm
   refine RQ.skip (wantN (dj:=33) rfl (vb rfl c13) rfl)<|RQ.skip (wantN (dj:=33) rfl (vb rfl c13) rfl)<|RQ.y rfl (Y.pick (b:=false) (v:=.bool false) (vb rfl c13) rfl)<|RQ.y rfl (Y.assign (v:=.bool false) rfl)<|RQ.nil ?_
   intro w14 hb15
   have szw14:=hb15.size
   have T:=Tt T hb15
   refine then_n<|wp_ret ?_
   obtain rfl:=sj hm
   exact (ret1 rfl rfl rfl ⟨rfl,T⟩)
  replace hm:=cT c13 hm
  refine RQ.y (wantT (dj:=33) rfl (vb rfl c13)) (Y.move (v:=.pointer (some ⟨ba0,oa0,none⟩)) s0) ?_
  obtain ⟨y16,e17,hm⟩:=bnd hm
  refine RQ.call (wantT (dj:=33) rfl (vb rfl c13)) (am1 rfl) (by kernel_rfl) (v:=.bool y16) (bel (K:=fun _=>True) fun w' hb'=>(c_m_spec_l11Content d0 _ e17 _ w' (ptArg agentRd_ok hba0 hSa0 hca0 (Tt T hb'))))<|RQ.y rfl (Y.pick (b:=true) (v:=.bool y16) (vb rfl c13) rfl)<|RQ.y rfl (Y.assign (v:=.bool y16) rfl)<|RQ.nil ?_
  intro w18 hb19
  have szw18:=hb19.size
  have T:=Tt T hb19
  refine then_n<|wp_ret ?_
  obtain rfl:=sj hm
  exact (ret1 rfl rfl rfl ⟨rfl,T⟩)
def m_spec_l11Agents_A1:Option Bool:=
  some true
def m_spec_l11Agents_B1 (d0:List DAgent) (rec1:Int→Option Bool) (K1:Option Bool) (i5:Int):Option Bool:=
  (bif (decide (i5 < (d0.length:Int))) then ((getI d0 i5).bind fun x8=>((m_spec_l11Agent x8).bind fun y19=>(bif y19 then ((getI d0 i5).bind fun x24=>(bif ((x24.kind==1) != (i5==0)) then some false else (rec1 (i5+1)))) else some false))) else (K1))
def m_spec_l11Agents_L1 (d0:List DAgent) (K1:Option Bool):Nat→Int→Option Bool
  |0,_=>none
  |g+1,i5=>m_spec_l11Agents_B1 d0 (m_spec_l11Agents_L1 d0 K1 g) K1 i5
def m_spec_l11Agents (d0:List DAgent):Option Bool:=
  (bif (inR (d0.length:Int) 1 600) then (m_spec_l11Agents_L1 d0 m_spec_l11Agents_A1 (d0.length+1) 0) else some false)
set_option maxHeartbeats 2000000 in
theorem c_m_spec_l11Agents (d0:List DAgent) (r:Bool) (hm:m_spec_l11Agents d0=some r) (v0:Value) (w:World) (hv0:Sl agentRd 5 w v0 d0) :
    Calls Tryz.prog 28 #[v0] w fun e w'=>e=.returned (.bool r)∧Below w.heap.size w w':=by
  obtain ⟨Aa0,na0,ca0,rfl,ha0,ra0⟩:=hv0
  have ea0:=ha0.len; subst ea0
  have qa0:=len_le ra0
  have T:=Below.refl w.heap.size w
  unfold m_spec_l11Agents at hm
  refine enter 30 Tryz.func28 rfl rfl rfl ?_
  intro f hf
  have s0:f 0=.slice Aa0 d0.length ca0:=hf 0 _ rfl
  refine wp_seq<|wp_rs rfl<|RQ.y rfl (Y.assign (v:=.bool false) rfl)<|RQ.nil<|then_n<|wp_seq<|wp_seq<|wp_rb rfl<|RQ.y rfl (Y.move (v:=.slice Aa0 d0.length ca0) s0)<|RQ.y rfl (Y.len (by kernel_rfl) rfl)<|RQ.call rfl (am3 rfl rfl rfl) (by kernel_rfl) (v:=.bool (inR (d0.length:Int) 1 600)) (bel (K:=fun _=>True) fun w' hb'=>(callB (spec_l00In (d0.length:Int) 1 600 w')))<|RQ.y rfl (Y.not (b':=(!(inR (d0.length:Int) 1 600))) rfl rfl)<|RQ.nil ?_
  intro w1 hb2
  have szw1:=hb2.size
  have T:=Tt T hb2
  refine then_n ?_
  rcases bcases (inR (d0.length:Int) 1 600) with c3|c3
  ·replace hm:=cF c3 hm
   refine cond_t rfl (vbn rfl c3 rfl)<|wp_seq<|wp_rs rfl<|RQ.y rfl (Y.assign (v:=.bool false) rfl)<|RQ.nil<|then_n<|wp_ret ?_
   obtain rfl:=sj hm
   exact (then_r (ret1 rfl rfl rfl ⟨rfl,T⟩))
  replace hm:=cT c3 hm
  refine cond_f rfl (vbn rfl c3 rfl)<|wp_skip<|then_n<|wp_seq<|wp_seq<|wp_rs rfl<|RQ.y rfl (Y.assign (v:=.int .i64 0) rfl)<|RQ.nil<|then_n<|wp_block ?_
  obtain ⟨K1,hK1,hm⟩ :∃K,K=m_spec_l11Agents_A1∧m_spec_l11Agents_L1 d0 K (d0.length+1) 0=some r:=⟨_,rfl,hm⟩
  refine wp_loopX (fun g f w'=>∃(i5:Int),f 0=.slice Aa0 d0.length ca0∧f 3=.int .i64 i5∧0≤i5∧Below w.heap.size w w'∧m_spec_l11Agents_L1 d0 K1 g i5=some r) 0 (fun f w'=>Below w.heap.size w w'∧m_spec_l11Agents_A1  = some r) (d0.length+1) ⟨0,s0,rfl,(by omega),T,hm⟩ ?_ ?_
  ·rintro f w4 ⟨T,hm⟩
   unfold m_spec_l11Agents_A1 at hm
   refine blk_hit (then_n ?_)
   refine wp_seq<|wp_rs rfl<|RQ.y rfl (Y.assign (v:=.bool true) rfl)<|RQ.nil<|then_n<|wp_ret ?_
   obtain rfl:=sj hm
   exact (ret1 rfl rfl rfl ⟨rfl,T⟩)
  rintro g f w6 ⟨i5,s0_1,s3_1,nn3_1,T,hm⟩
  rcases g with _|g
  ·simp only [m_spec_l11Agents_L1] at hm; cases hm
  obtain ⟨rec1,hrec1,hm⟩ :∃z,z=m_spec_l11Agents_L1 d0 K1 g∧m_spec_l11Agents_B1 d0 z K1 i5=some r:=⟨_,rfl,hm⟩
  unfold m_spec_l11Agents_B1 at hm
  refine wp_seq<|wp_seq<|wp_rs rfl<|RQ.y rfl (Y.move (v:=.int .i64 i5) s3_1)<|RQ.y rfl (Y.move (v:=.slice Aa0 d0.length ca0) s0_1)<|RQ.y rfl (Y.len (by kernel_rfl) rfl)<|RQ.y rfl (Y.binI (v:=.bool (decide (i5 < (d0.length:Int)))) rfl rfl rfl)<|RQ.nil<|then_n ?_
  rcases bcases (decide (i5 < (d0.length:Int))) with c7|c7
  ·replace hm:=cF c7 hm
   have pc7:=of_decide_eq_false c7
   refine cond_f rfl (vb rfl c7)<|wp_exit ?_
   exact (then_x (then_x (hit_x ⟨_,rfl,⟨T,(by rw [hK1] at hm; exact hm)⟩⟩)))
  replace hm:=cT c7 hm
  have pc7:=of_decide_eq_true c7
  refine cond_t rfl (vb rfl c7)<|wp_skip<|then_n<|wp_seq<|wp_block<|wp_seq<|wp_rb rfl<|RQ.y rfl (Y.move (v:=.slice Aa0 d0.length ca0) s0_1)<|RQ.y rfl (Y.move (v:=.int .i64 i5) s3_1) ?_
  obtain ⟨x8,hx11,hm⟩:=bnd hm
  obtain ⟨k9,hk12,hl13,hx11⟩:=getI_some hx11
  obtain ⟨b15,o16,rfl,hbb15⟩:=ha0.addr (by omega)
  obtain ⟨cs10,hRcs10,hc14⟩:=ha0.el hx11
  have hScs10:=hRcs10
  obtain ⟨A17,n17,c17,A18,n18,c18,rfl,⟨h17,r17⟩,⟨h18,r18⟩⟩:=hRcs10
  have e17:=h17.len; subst e17
  have q17:=len_le r17
  have e18:=h18.len; subst e18
  have q18:=len_le r18
  refine RQ.y rfl (Y.indexAddr (m:=k9) (sz:=5) rfl rfl hk12 hl13 (by kernel_rfl)) ?_
  obtain ⟨y19,e20,hm⟩:=bnd hm
  refine RQ.call rfl (am1 rfl) (by kernel_rfl) (v:=.bool y19) (bel (K:=fun _=>True) fun w' hb'=>(c_m_spec_l11Agent x8 _ e20 _ w' (ptArg agentRd_ok hbb15 hScs10 hc14 (Tt T hb'))))<|RQ.y rfl (Y.not (b':=(!y19)) rfl rfl)<|RQ.y rfl (Y.move (v:=.bool (!y19)) rfl) ?_
  rcases bcases y19 with c21|c21
  ·replace hm:=cF c21 hm
   iterate 9 refine RQ.skip (wantN (dj:=19) rfl (vbn rfl c21 rfl) rfl) ?_
   refine RQ.y rfl (Y.pick (b:=true) (v:=.bool true) (vbn rfl c21 rfl) rfl)<|RQ.nil ?_
   intro w22 hb23
   have szw22:=hb23.size
   have T:=Tt T hb23
   refine then_n<|cond_t rfl rfl<|wp_seq<|wp_rs rfl<|RQ.y rfl (Y.assign (v:=.bool false) rfl)<|RQ.nil<|then_n<|wp_ret ?_
   obtain rfl:=sj hm
   exact (blk_r (then_r (then_r (hit_r (blk_r (then_r (ret1 rfl rfl rfl ⟨rfl,T⟩)))))))
  replace hm:=cT c21 hm
  refine RQ.y (wantT (dj:=19) rfl (vbn rfl c21 rfl)) (Y.move (v:=.slice (some ⟨b15,o16,none⟩) d0.length ca0) s0_1)<|RQ.y (wantT (dj:=19) rfl (vbn rfl c21 rfl)) (Y.move (v:=.int .i64 i5) s3_1) ?_
  obtain ⟨x24,hx27,hm⟩:=bnd hm
  obtain ⟨k25,hk28,hl29,hx27⟩:=getI_some hx27
  obtain ⟨cs26,hRcs26,hc30⟩:=ha0.el hx27
  have hScs26:=hRcs26
  obtain ⟨A31,n31,c31,A32,n32,c32,rfl,⟨h31,r31⟩,⟨h32,r32⟩⟩:=hRcs26
  have e31:=h31.len; subst e31
  have q31:=len_le r31
  have e32:=h32.len; subst e32
  have q32:=len_le r32
  refine RQ.y (wantT (dj:=19) rfl (vbn rfl c21 rfl)) (Y.indexAddr (m:=k25) (sz:=5) rfl rfl hk28 hl29 (by kernel_rfl))<|RQ.y (wantT (dj:=19) rfl (vbn rfl c21 rfl)) (Y.fieldAddr (off:=0) rfl (by kernel_rfl))<|RQ.y (wantT (dj:=19) rfl (vbn rfl c21 rfl)) (Y.load (v:=.int .i64 x24.kind) rfl (by kernel_rfl) (beC (cellT T (hc30 0 _ rfl))))<|RQ.y (wantT (dj:=19) rfl (vbn rfl c21 rfl)) (Y.binI (v:=.bool (x24.kind==1)) rfl rfl rfl)<|RQ.y (wantT (dj:=19) rfl (vbn rfl c21 rfl)) (Y.move (v:=.int .i64 i5) s3_1)<|RQ.y (wantT (dj:=19) rfl (vbn rfl c21 rfl)) (Y.binI (v:=.bool (i5==0)) rfl rfl rfl)<|RQ.y (wantT (dj:=19) rfl (vbn rfl c21 rfl)) (Y.beq (c:=((x24.kind==1) != (i5==0))) (by kernel_rfl) rfl rfl (.inr ⟨rfl,rfl⟩))<|RQ.y rfl (Y.pick (b:=false) (v:=.bool ((x24.kind==1) != (i5==0))) (vbn rfl c21 rfl) rfl)<|RQ.nil ?_
  intro w33 hb34
  have szw33:=hb34.size
  have T:=Tt T hb34
  refine then_n ?_
  rcases bcases ((x24.kind==1) != (i5==0)) with c35|c35
  ·replace hm:=cF c35 hm
   refine cond_f rfl (vb rfl c35)<|wp_skip ?_
   refine blk_n (then_n ?_)
   refine wp_rs rfl<|RQ.y rfl (Y.move (v:=.int .i64 i5) s3_1)<|RQ.y rfl (Y.binI rfl rfl (binI_add (m:=i5) (by omega)))<|RQ.y rfl (Y.assign (v:=.int .i64 (i5+1)) rfl)<|RQ.nil ?_
   exact (then_n ⟨g,_,Nat.lt_succ_self _,rfl,⟨(i5+1),s0_1,rfl,(by omega),T,(by rw [← hrec1]; exact hm)⟩⟩)
  replace hm:=cT c35 hm
  refine cond_t rfl (vb rfl c35)<|wp_seq<|wp_rs rfl<|RQ.y rfl (Y.assign (v:=.bool false) rfl)<|RQ.nil<|then_n<|wp_ret ?_
  obtain rfl:=sj hm
  exact (blk_r (then_r (then_r (hit_r (blk_r (then_r (ret1 rfl rfl rfl ⟨rfl,T⟩)))))))
def m_spec_l11Port (d0:List DAgent) (d1:DPort):Option Bool:=
  ((ck ((d0.length:Int) - 1)).bind fun s5=>(bif (inR d1.agent 0 s5) then ((getI d0 d1.agent).bind fun x9=>((ck ((x9.ports.length:Int) - 1)).bind fun s20=>some (inR d1.slot 0 s20))) else some false))
set_option maxHeartbeats 2000000 in
theorem c_m_spec_l11Port (d0:List DAgent) (d1:DPort) (r:Bool) (hm:m_spec_l11Port d0 d1=some r) (v0:Value) (w:World) (hv0:Sl agentRd 5 w v0 d0) :
    Calls Tryz.prog 29 #[v0,.agg #[.int .i64 d1.agent,.int .i64 d1.slot]] w fun e w'=>e=.returned (.bool r)∧Below w.heap.size w w':=by
  obtain ⟨Aa0,na0,ca0,rfl,ha0,ra0⟩:=hv0
  have ea0:=ha0.len; subst ea0
  have qa0:=len_le ra0
  have T:=Below.refl w.heap.size w
  unfold m_spec_l11Port at hm
  refine enter 24 Tryz.func29 rfl rfl rfl ?_
  intro f hf
  have s0:f 0=.slice Aa0 d0.length ca0:=hf 0 _ rfl
  have s1:f 1=.agg #[.int .i64 d1.agent,.int .i64 d1.slot]:=hf 1 _ rfl
  refine wp_seq<|wp_rl rfl ?_
  refine RL.box rfl s1 (fun w1 B2 hb3 szw1=>?_)
  replace B2:Blk w1 w.heap.size 61 #[.int .i64 d1.agent,.int .i64 d1.slot]:=B2
  have GB2:w.heap.size≤w.heap.size:=T.size
  have T:=Tt T hb3
  refine RL.y rfl (Y.assign (v:=.bool false) rfl)<|RL.nil<|then_n<|wp_seq<|wp_rbd (by kernel_rfl) (by kernel_rfl)<|RQ.y rfl (Y.fieldAddr (off:=0) rfl (by kernel_rfl))<|RQ.y rfl (Y.load (v:=.int .i64 d1.agent) rfl (by kernel_rfl) (beC (blkCell B2 (i:=0) rfl)))<|RQ.y rfl (Y.move (v:=.slice Aa0 d0.length ca0) s0)<|RQ.y rfl (Y.len (by kernel_rfl) rfl) ?_
  obtain ⟨s5,ks5,hm⟩:=bnd hm
  replace ks5:=ck_some ks5
  refine RQ.y rfl (Y.binI (v:=.int .i64 s5) rfl rfl (by rw [binI_sub ks5.2,ks5.1]))<|RQ.call rfl (am3 rfl rfl rfl) (by kernel_rfl) (v:=.bool (inR d1.agent 0 s5)) (bel (K:=fun _=>True) fun w' hb'=>(callB (spec_l00In d1.agent 0 s5 w')))<|RQ.y rfl (Y.move (v:=.bool (inR d1.agent 0 s5)) rfl) ?_
  rcases bcases (inR d1.agent 0 s5) with c6|c6
  ·replace hm:=cF c6 hm
   iterate 11 refine RQ.skip (wantN (dj:=11) rfl (vb rfl c6) rfl) ?_
   refine RQ.y rfl (Y.pick (b:=false) (v:=.bool false) (vb rfl c6) rfl)<|RQ.y rfl (Y.assign (v:=.bool false) rfl)<|RQ.nil ?_
   intro w7 hb8
   have szw7:=hb8.size
   have T:=Tt T hb8
   refine then_n<|wp_ret ?_
   obtain rfl:=sj hm
   exact (ret1 rfl rfl rfl ⟨rfl,T⟩)
  replace hm:=cT c6 hm
  refine RQ.y (wantT (dj:=11) rfl (vb rfl c6)) (Y.fieldAddr (off:=1) rfl (by kernel_rfl))<|RQ.y (wantT (dj:=11) rfl (vb rfl c6)) (Y.load (v:=.int .i64 d1.slot) rfl (by kernel_rfl) (beC (blkCell B2 (i:=1) rfl)))<|RQ.y (wantT (dj:=11) rfl (vb rfl c6)) (Y.move (v:=.slice Aa0 d0.length ca0) s0)<|RQ.y (wantT (dj:=11) rfl (vb rfl c6)) (Y.fieldAddr (off:=0) rfl (by kernel_rfl))<|RQ.y (wantT (dj:=11) rfl (vb rfl c6)) (Y.load (v:=.int .i64 d1.agent) rfl (by kernel_rfl) (beC (blkCell B2 (i:=0) rfl))) ?_
  obtain ⟨x9,hx12,hm⟩:=bnd hm
  obtain ⟨k10,hk13,hl14,hx12⟩:=getI_some hx12
  obtain ⟨b16,o17,rfl,hbb16⟩:=ha0.addr (by omega)
  obtain ⟨cs11,hRcs11,hc15⟩:=ha0.el hx12
  have hScs11:=hRcs11
  obtain ⟨A18,n18,c18,A19,n19,c19,rfl,⟨h18,r18⟩,⟨h19,r19⟩⟩:=hRcs11
  have e18:=h18.len; subst e18
  have q18:=len_le r18
  have e19:=h19.len; subst e19
  have q19:=len_le r19
  refine RQ.y (wantT (dj:=11) rfl (vb rfl c6)) (Y.indexAddr (m:=k10) (sz:=5) rfl rfl hk13 hl14 (by kernel_rfl))<|RQ.y (wantT (dj:=11) rfl (vb rfl c6)) (Y.fieldAddr (off:=4) rfl (by kernel_rfl))<|RQ.y (wantT (dj:=11) rfl (vb rfl c6)) (Y.load (v:=.slice A19 x9.ports.length c19) rfl (by kernel_rfl) (beC (cellT T (hc15 4 _ rfl))))<|RQ.y (wantT (dj:=11) rfl (vb rfl c6)) (Y.len (by kernel_rfl) rfl) ?_
  obtain ⟨s20,ks20,hm⟩:=bnd hm
  replace ks20:=ck_some ks20
  refine RQ.y (wantT (dj:=11) rfl (vb rfl c6)) (Y.binI (v:=.int .i64 s20) rfl rfl (by rw [binI_sub ks20.2,ks20.1]))<|RQ.call (wantT (dj:=11) rfl (vb rfl c6)) (am3 rfl rfl rfl) (by kernel_rfl) (v:=.bool (inR d1.slot 0 s20)) (bel (K:=fun _=>True) fun w' hb'=>(callB (spec_l00In d1.slot 0 s20 w')))<|RQ.y rfl (Y.pick (b:=true) (v:=.bool (inR d1.slot 0 s20)) (vb rfl c6) rfl)<|RQ.y rfl (Y.assign (v:=.bool (inR d1.slot 0 s20)) rfl)<|RQ.nil ?_
  intro w21 hb22
  have szw21:=hb22.size
  have T:=Tt T hb22
  refine then_n<|wp_ret ?_
  obtain rfl:=sj hm
  exact (ret1 rfl rfl rfl ⟨rfl,T⟩)
def m_spec_l11Ok_A1:Option Bool:=
  some true
def m_spec_l11Ok_A2 (rec1:Int→Option Bool) (i8:Int):Option Bool:=
  ((ck (i8+1)).bind fun s23=>(rec1 s23))
def m_spec_l11Ok_B2 (d0:DNet) (i8:Int) (x11:DAgent) (rec2:Int→Option Bool) (K2:Option Bool) (i24:Int):Option Bool:=
  (bif (decide (i24 < (x11.ports.length:Int))) then ((getI x11.ports i24).bind fun x34=>(bif (x34.agent==i8 && x34.slot==i24) then some false else ((m_spec_l11Port d0.agents x34).bind fun y51=>(bif y51 then ((getI d0.agents x34.agent).bind fun x56=>((getI x56.ports x34.slot).bind fun x65=>(bif (x65.agent==i8 && x65.slot==i24) then (rec2 (i24+1)) else some false))) else some false)))) else (K2))
def m_spec_l11Ok_L2 (d0:DNet) (i8:Int) (x11:DAgent) (K2:Option Bool):Nat→Int→Option Bool
  |0,_=>none
  |g+1,i24=>m_spec_l11Ok_B2 d0 i8 x11 (m_spec_l11Ok_L2 d0 i8 x11 K2 g) K2 i24
def m_spec_l11Ok_B1 (d0:DNet) (rec1:Int→Option Bool) (K1:Option Bool) (i8:Int):Option Bool:=
  (bif (decide (i8 < (d0.agents.length:Int))) then ((getI d0.agents i8).bind fun x11=>(m_spec_l11Ok_L2 d0 i8 x11 (m_spec_l11Ok_A2 rec1 i8) (x11.ports.length+1) 0)) else (K1))
def m_spec_l11Ok_L1 (d0:DNet) (K1:Option Bool):Nat→Int→Option Bool
  |0,_=>none
  |g+1,i8=>m_spec_l11Ok_B1 d0 (m_spec_l11Ok_L1 d0 K1 g) K1 i8
def m_spec_l11Ok (d0:DNet):Option Bool:=
  ((m_spec_l11Agents d0.agents).bind fun y2=>(bif y2 then (m_spec_l11Ok_L1 d0 m_spec_l11Ok_A1 (d0.agents.length+1) 0) else some false))
set_option maxHeartbeats 2000000 in
theorem c_m_spec_l11Ok (d0:DNet) (r:Bool) (hm:m_spec_l11Ok d0=some r) (v0:Value) (w:World) (hv0:Pt netRd w v0 d0) :
    Calls Tryz.prog 15 #[v0] w fun e w'=>e=.returned (.bool r)∧Below w.heap.size w w':=by
  obtain ⟨ba0,oa0,csa0,rfl,hba0,hRa0,hca0⟩:=hv0
  have hSa0:=hRa0
  obtain ⟨A1,n1,c1,rfl,⟨h1,r1⟩⟩:=hRa0
  have e1:=h1.len; subst e1
  have q1:=len_le r1
  have T:=Below.refl w.heap.size w
  unfold m_spec_l11Ok at hm
  refine enter 77 Tryz.func15 rfl rfl rfl ?_
  intro f hf
  have s0:f 0=.pointer (some ⟨ba0,oa0,none⟩):=hf 0 _ rfl
  refine wp_seq<|wp_rs rfl<|RQ.y rfl (Y.assign (v:=.bool false) rfl)<|RQ.nil<|then_n<|wp_seq<|wp_seq<|wp_rb rfl<|RQ.y rfl (Y.move (v:=.pointer (some ⟨ba0,oa0,none⟩)) s0)<|RQ.y rfl (Y.nilCheck rfl)<|RQ.y rfl (Y.fieldAddr (off:=0) rfl (by kernel_rfl))<|RQ.y rfl (Y.load (v:=.slice A1 d0.agents.length c1) rfl (by kernel_rfl) (beC (cellT T (hca0 0 _ rfl)))) ?_
  obtain ⟨y2,e3,hm⟩:=bnd hm
  refine RQ.call rfl (am1 rfl) (by kernel_rfl) (v:=.bool y2) (bel (K:=fun _=>True) fun w' hb'=>(c_m_spec_l11Agents d0.agents _ e3 _ w' (slArg agentRd_ok h1 r1 (Tt T hb'))))<|RQ.y rfl (Y.not (b':=(!y2)) rfl rfl)<|RQ.nil ?_
  intro w4 hb5
  have szw4:=hb5.size
  have T:=Tt T hb5
  refine then_n ?_
  rcases bcases y2 with c6|c6
  ·replace hm:=cF c6 hm
   refine cond_t rfl (vbn rfl c6 rfl)<|wp_seq<|wp_rs rfl<|RQ.y rfl (Y.assign (v:=.bool false) rfl)<|RQ.nil<|then_n<|wp_ret ?_
   obtain rfl:=sj hm
   exact (then_r (ret1 rfl rfl rfl ⟨rfl,T⟩))
  replace hm:=cT c6 hm
  refine cond_f rfl (vbn rfl c6 rfl)<|wp_skip<|then_n<|wp_seq<|wp_seq<|wp_rs rfl<|RQ.y rfl (Y.assign (v:=.int .i64 0) rfl)<|RQ.nil<|then_n<|wp_block ?_
  obtain ⟨K1,hK1,hm⟩ :∃K,K=m_spec_l11Ok_A1∧m_spec_l11Ok_L1 d0 K (d0.agents.length+1) 0=some r:=⟨_,rfl,hm⟩
  refine wp_loopX (fun g f w'=>∃(i8:Int),f 0=.pointer (some ⟨ba0,oa0,none⟩)∧f 3=.int .i64 i8∧0≤i8∧Below w.heap.size w w'∧m_spec_l11Ok_L1 d0 K1 g i8=some r) 0 (fun f w'=>Below w.heap.size w w'∧m_spec_l11Ok_A1  = some r) (d0.agents.length+1) ⟨0,s0,rfl,(by omega),T,hm⟩ ?_ ?_
  ·rintro f w7 ⟨T,hm⟩
   unfold m_spec_l11Ok_A1 at hm
   refine blk_hit (then_n ?_)
   refine wp_seq<|wp_rs rfl<|RQ.y rfl (Y.assign (v:=.bool true) rfl)<|RQ.nil<|then_n<|wp_ret ?_
   obtain rfl:=sj hm
   exact (ret1 rfl rfl rfl ⟨rfl,T⟩)
  rintro g f w9 ⟨i8,s0_1,s3_1,nn3_1,T,hm⟩
  rcases g with _|g
  ·simp only [m_spec_l11Ok_L1] at hm; cases hm
  obtain ⟨rec1,hrec1,hm⟩ :∃z,z=m_spec_l11Ok_L1 d0 K1 g∧m_spec_l11Ok_B1 d0 z K1 i8=some r:=⟨_,rfl,hm⟩
  unfold m_spec_l11Ok_B1 at hm
  refine wp_seq<|wp_seq<|wp_rs rfl<|RQ.y rfl (Y.move (v:=.int .i64 i8) s3_1)<|RQ.y rfl (Y.move (v:=.pointer (some ⟨ba0,oa0,none⟩)) s0_1)<|RQ.y rfl (Y.nilCheck rfl)<|RQ.y rfl (Y.fieldAddr (off:=0) rfl (by kernel_rfl))<|RQ.y rfl (Y.load (v:=.slice A1 d0.agents.length c1) rfl (by kernel_rfl) (eqC (cellT T (hca0 0 _ rfl))))<|RQ.y rfl (Y.len (by kernel_rfl) rfl)<|RQ.y rfl (Y.binI (v:=.bool (decide (i8 < (d0.agents.length:Int)))) rfl rfl rfl)<|RQ.nil<|then_n ?_
  rcases bcases (decide (i8 < (d0.agents.length:Int))) with c10|c10
  ·replace hm:=cF c10 hm
   have pc10:=of_decide_eq_false c10
   refine cond_f rfl (vb rfl c10)<|wp_exit ?_
   exact (then_x (then_x (hit_x ⟨_,rfl,⟨T,(by rw [hK1] at hm; exact hm)⟩⟩)))
  replace hm:=cT c10 hm
  have pc10:=of_decide_eq_true c10
  refine cond_t rfl (vb rfl c10)<|wp_skip<|then_n<|wp_seq<|wp_block<|wp_seq<|wp_rs rfl<|RQ.y rfl (Y.move (v:=.pointer (some ⟨ba0,oa0,none⟩)) s0_1)<|RQ.y rfl (Y.nilCheck rfl)<|RQ.y rfl (Y.fieldAddr (off:=0) rfl (by kernel_rfl))<|RQ.y rfl (Y.load (v:=.slice A1 d0.agents.length c1) rfl (by kernel_rfl) (eqC (cellT T (hca0 0 _ rfl))))<|RQ.y rfl (Y.move (v:=.int .i64 i8) s3_1) ?_
  obtain ⟨x11,hx14,hm⟩:=bnd hm
  obtain ⟨k12,hk15,hl16,hx14⟩:=getI_some hx14
  obtain ⟨b18,o19,rfl,hbb18⟩:=h1.addr (by omega)
  obtain ⟨cs13,hRcs13,hc17⟩:=h1.el hx14
  have hScs13:=hRcs13
  obtain ⟨A20,n20,c20,A21,n21,c21,rfl,⟨h20,r20⟩,⟨h21,r21⟩⟩:=hRcs13
  have e20:=h20.len; subst e20
  have q20:=len_le r20
  have e21:=h21.len; subst e21
  have q21:=len_le r21
  refine RQ.y rfl (Y.indexAddr (m:=k12) (sz:=5) rfl rfl hk15 hl16 (by kernel_rfl))<|RQ.y rfl (Y.assign (v:=.pointer (some ⟨b18,o19+k12 * 5,none⟩)) rfl)<|RQ.nil<|then_n<|wp_seq<|wp_rs rfl<|RQ.y rfl (Y.assign (v:=.int .i64 0) rfl)<|RQ.nil<|then_n<|wp_block ?_
  obtain ⟨K2,hK2,hm⟩ :∃K,K=(m_spec_l11Ok_A2 rec1 i8)∧m_spec_l11Ok_L2 d0 i8 x11 K (x11.ports.length+1) 0=some r:=⟨_,rfl,hm⟩
  refine wp_loopX (fun g f w'=>∃(i24:Int),f 0=.pointer (some ⟨ba0,oa0,none⟩)∧f 3=.int .i64 i8∧f 4=.pointer (some ⟨b18,o19+k12 * 5,none⟩)∧f 5=.int .i64 i24∧0≤i24∧Below w.heap.size w w'∧m_spec_l11Ok_L2 d0 i8 x11 K2 g i24=some r) 2 (fun f w'=>f 0=.pointer (some ⟨ba0,oa0,none⟩)∧f 3=.int .i64 i8∧Below w.heap.size w w'∧m_spec_l11Ok_A2 rec1 i8  = some r) (x11.ports.length+1) ⟨0,s0_1,s3_1,rfl,rfl,(by omega),T,hm⟩ ?_ ?_
  ·rintro f w22 ⟨s0_2x,s3_2x,T,hm⟩
   unfold m_spec_l11Ok_A2 at hm
   refine blk_hit (blk_n (then_n ?_))
   refine wp_rs rfl<|RQ.y rfl (Y.move (v:=.int .i64 i8) s3_2x) ?_
   obtain ⟨s23,ks23,hm⟩:=bnd hm
   replace ks23:=ck_some ks23
   refine RQ.y rfl (Y.binI (v:=.int .i64 s23) rfl rfl (by rw [binI_add ks23.2,ks23.1]))<|RQ.y rfl (Y.assign (v:=.int .i64 s23) rfl)<|RQ.nil ?_
   exact (then_n ⟨g,_,Nat.lt_succ_self _,rfl,⟨s23,s0_2x,rfl,(by omega),T,(by rw [← hrec1]; exact hm)⟩⟩)
  rintro g f w25 ⟨i24,s0_2,s3_2,s4_2,s5_2,nn5_2,T,hm⟩
  rcases g with _|g
  ·simp only [m_spec_l11Ok_L2] at hm; cases hm
  obtain ⟨rec2,hrec2,hm⟩ :∃z,z=m_spec_l11Ok_L2 d0 i8 x11 K2 g∧m_spec_l11Ok_B2 d0 i8 x11 z K2 i24=some r:=⟨_,rfl,hm⟩
  unfold m_spec_l11Ok_B2 at hm
  refine wp_seq<|wp_seq<|wp_rs rfl<|RQ.y rfl (Y.move (v:=.int .i64 i24) s5_2)<|RQ.y rfl (Y.move (v:=.pointer (some ⟨b18,o19+k12 * 5,none⟩)) s4_2)<|RQ.y rfl (Y.nilCheck rfl)<|RQ.y rfl (Y.fieldAddr (off:=4) rfl (by kernel_rfl))<|RQ.y rfl (Y.load (v:=.slice A21 x11.ports.length c21) rfl (by kernel_rfl) (eqC (cellT T (hc17 4 _ rfl))))<|RQ.y rfl (Y.len (by kernel_rfl) rfl)<|RQ.y rfl (Y.binI (v:=.bool (decide (i24 < (x11.ports.length:Int)))) rfl rfl rfl)<|RQ.nil<|then_n ?_
  rcases bcases (decide (i24 < (x11.ports.length:Int))) with c26|c26
  ·replace hm:=cF c26 hm
   have pc26:=of_decide_eq_false c26
   refine cond_f rfl (vb rfl c26)<|wp_exit ?_
   exact (then_x (then_x (hit_x ⟨_,rfl,⟨s0_2,s3_2,T,(by rw [hK2] at hm; exact hm)⟩⟩)))
  replace hm:=cT c26 hm
  have pc26:=of_decide_eq_true c26
  refine cond_t rfl (vb rfl c26)<|wp_skip<|then_n<|wp_seq<|wp_block<|wp_seq<|wp_rl rfl<|RL.y rfl (Y.move (v:=.int .i64 i8) s3_2)<|RL.y rfl (Y.move (v:=.int .i64 i24) s5_2)<|RL.y rfl (Y.build2 (cells:=#[.int .i64 i8,.int .i64 i24]) rfl rfl (by kernel_rfl) (by kernel_rfl)) ?_
  refine RL.alloc (z:=.agg #[.int .i64 0,.int .i64 0]) rfl (by kernel_rfl) (fun w27 B28 hb29 szw27=>?_)
  replace B28:Blk w27 w25.heap.size 61 #[.int .i64 0,.int .i64 0]:=B28
  have GB28:w.heap.size≤w25.heap.size:=T.size
  have T:=Tt T hb29
  refine RL.store (v:=.agg #[.int .i64 i8,.int .i64 i24]) (cs':=#[.int .i64 i8,.int .i64 i24]) rfl rfl rfl B28 (by kernel_rfl) (by rfl) (by rfl) (by rfl) (fun w31 B32 ho33=>?_)
  have szw31:=ho33.size
  have T:=T.trans (ho33.below (by simp; omega))
  refine RL.nil<|then_n<|wp_seq<|wp_rl rfl<|RL.y rfl (Y.move (v:=.pointer (some ⟨b18,o19+k12 * 5,none⟩)) s4_2)<|RL.y rfl (Y.nilCheck rfl)<|RL.y rfl (Y.fieldAddr (off:=4) rfl (by kernel_rfl))<|RL.y rfl (Y.load (v:=.slice A21 x11.ports.length c21) rfl (by kernel_rfl) (eqC (cellT T (hc17 4 _ rfl))))<|RL.y rfl (Y.move (v:=.int .i64 i24) s5_2) ?_
  obtain ⟨x34,hx37,hm⟩:=bnd hm
  obtain ⟨k35,hk38,hl39,hx37⟩:=getI_some hx37
  obtain ⟨b41,o42,rfl,hbb41⟩:=h21.addr (by omega)
  obtain ⟨cs36,hRcs36,hc40⟩:=h21.el hx37
  have hScs36:=hRcs36
  obtain rfl:=hRcs36
  refine RL.y rfl (Y.indexAddr (m:=k35) (sz:=2) rfl rfl hk38 hl39 (by kernel_rfl))<|RL.y rfl (Y.loadN (cs:=[.int .i64 x34.agent,.int .i64 x34.slot]) rfl (by kernel_rfl) (cells2 (eqC (cellT T (hc40 0 _ rfl))) (eqC (cellT T (hc40 1 _ rfl))))) ?_
  refine RL.alloc (z:=.agg #[.int .i64 0,.int .i64 0]) rfl (by kernel_rfl) (fun w43 B44 hb45 szw43=>?_)
  replace B44:Blk w43 w31.heap.size 61 #[.int .i64 0,.int .i64 0]:=B44
  have GB44:w.heap.size≤w31.heap.size:=T.size
  have Eob46_ob30:=Nat.ne_of_lt B32.lt
  have B32:=blkT B32 hb45
  have T:=Tt T hb45
  refine RL.store (v:=.agg #[.int .i64 x34.agent,.int .i64 x34.slot]) (cs':=#[.int .i64 x34.agent,.int .i64 x34.slot]) rfl rfl rfl B44 (by kernel_rfl) (by rfl) (by rfl) (by rfl) (fun w47 B48 ho49=>?_)
  have szw47:=ho49.size
  have B32:=B32.only_ ho49 (by intro hin; simp at hin; exact Eob46_ob30 hin)
  have T:=T.trans (ho49.below (by simp; omega))
  refine RL.nil<|then_n<|wp_seq<|wp_rbd (by kernel_rfl) (by kernel_rfl)<|RQ.y rfl (Y.loadN (cs:=[.int .i64 x34.agent,.int .i64 x34.slot]) rfl (by kernel_rfl) (cells2 (beC (blkCell B48 (i:=0) rfl)) (beC (blkCell B48 (i:=1) rfl))))<|RQ.y rfl (Y.loadN (cs:=[.int .i64 i8,.int .i64 i24]) rfl (by kernel_rfl) (cells2 (beC (blkCell B32 (i:=0) rfl)) (beC (blkCell B32 (i:=1) rfl))))<|RQ.y rfl (Y.eqS (b:=(x34.agent==i8 && x34.slot==i24)) rfl rfl (eqPort_run _ _ _ _) (eqGuardPort_run _ _ _ _ _))<|RQ.y rfl (Y.move (v:=.bool (x34.agent==i8 && x34.slot==i24)) rfl) ?_
  rcases bcases (x34.agent==i8 && x34.slot==i24) with c50|c50
  ·replace hm:=cF c50 hm
   refine RQ.y (wantT (dj:=51) rfl (vb rfl c50)) (Y.move (v:=.pointer (some ⟨ba0,oa0,none⟩)) s0_2)<|RQ.y (wantT (dj:=51) rfl (vb rfl c50)) (Y.nilCheck rfl)<|RQ.y (wantT (dj:=51) rfl (vb rfl c50)) (Y.fieldAddr (off:=0) rfl (by kernel_rfl))<|RQ.y (wantT (dj:=51) rfl (vb rfl c50)) (Y.load (v:=.slice (some ⟨b18,o19,none⟩) d0.agents.length c1) rfl (by kernel_rfl) (beC (cellT T (hca0 0 _ rfl))))<|RQ.y (wantT (dj:=51) rfl (vb rfl c50)) (Y.loadN (cs:=[.int .i64 x34.agent,.int .i64 x34.slot]) rfl (by kernel_rfl) (cells2 (beC (blkCell B48 (i:=0) rfl)) (beC (blkCell B48 (i:=1) rfl)))) ?_
   obtain ⟨y51,e52,hm⟩:=bnd hm
   refine RQ.call (wantT (dj:=51) rfl (vb rfl c50)) (am2 rfl rfl) (by kernel_rfl) (v:=.bool y51) (bel (K:=fun _=>True) fun w' hb'=>(c_m_spec_l11Port d0.agents x34 _ e52 _ w' (slArg agentRd_ok h1 r1 (Tt T hb'))))<|RQ.y (wantT (dj:=51) rfl (vb rfl c50)) (Y.not (b':=(!y51)) rfl rfl)<|RQ.y rfl (Y.pick (b:=false) (v:=.bool (!y51)) (vb rfl c50) rfl)<|RQ.y rfl (Y.move (v:=.bool (!y51)) rfl) ?_
   rcases bcases y51 with c53|c53
   ·replace hm:=cF c53 hm
    iterate 15 refine RQ.skip (wantN (dj:=60) rfl (vbn rfl c53 rfl) rfl) ?_
    refine RQ.y rfl (Y.pick (b:=true) (v:=.bool true) (vbn rfl c53 rfl) rfl)<|RQ.nil ?_
    intro w54 hb55
    have szw54:=hb55.size
    have T:=Tt T hb55
    refine then_n<|cond_t rfl rfl<|wp_seq<|wp_rs rfl<|RQ.y rfl (Y.assign (v:=.bool false) rfl)<|RQ.nil<|then_n<|wp_ret ?_
    obtain rfl:=sj hm
    exact (blk_r (then_r (then_r (hit_r (blk_r (blk_r (then_r (then_r (hit_r (blk_r (then_r (ret1 rfl rfl rfl ⟨rfl,T⟩))))))))))))
   replace hm:=cT c53 hm
   refine RQ.y (wantT (dj:=60) rfl (vbn rfl c53 rfl)) (Y.move (v:=.pointer (some ⟨ba0,oa0,none⟩)) s0_2)<|RQ.y (wantT (dj:=60) rfl (vbn rfl c53 rfl)) (Y.nilCheck rfl)<|RQ.y (wantT (dj:=60) rfl (vbn rfl c53 rfl)) (Y.fieldAddr (off:=0) rfl (by kernel_rfl))<|RQ.y (wantT (dj:=60) rfl (vbn rfl c53 rfl)) (Y.load (v:=.slice (some ⟨b18,o19,none⟩) d0.agents.length c1) rfl (by kernel_rfl) (beC (cellT T (hca0 0 _ rfl))))<|RQ.y (wantT (dj:=60) rfl (vbn rfl c53 rfl)) (Y.fieldAddr (off:=0) rfl (by kernel_rfl))<|RQ.y (wantT (dj:=60) rfl (vbn rfl c53 rfl)) (Y.load (v:=.int .i64 x34.agent) rfl (by kernel_rfl) (beC (blkCell B48 (i:=0) rfl))) ?_
   obtain ⟨x56,hx59,hm⟩:=bnd hm
   obtain ⟨k57,hk60,hl61,hx59⟩:=getI_some hx59
   obtain ⟨cs58,hRcs58,hc62⟩:=h1.el hx59
   have hScs58:=hRcs58
   obtain ⟨A63,n63,c63,A64,n64,c64,rfl,⟨h63,r63⟩,⟨h64,r64⟩⟩:=hRcs58
   have e63:=h63.len; subst e63
   have q63:=len_le r63
   have e64:=h64.len; subst e64
   have q64:=len_le r64
   refine RQ.y (wantT (dj:=60) rfl (vbn rfl c53 rfl)) (Y.indexAddr (m:=k57) (sz:=5) rfl rfl hk60 hl61 (by kernel_rfl))<|RQ.y (wantT (dj:=60) rfl (vbn rfl c53 rfl)) (Y.fieldAddr (off:=4) rfl (by kernel_rfl))<|RQ.y (wantT (dj:=60) rfl (vbn rfl c53 rfl)) (Y.load (v:=.slice A64 x56.ports.length c64) rfl (by kernel_rfl) (beC (cellT T (hc62 4 _ rfl))))<|RQ.y (wantT (dj:=60) rfl (vbn rfl c53 rfl)) (Y.fieldAddr (off:=1) rfl (by kernel_rfl))<|RQ.y (wantT (dj:=60) rfl (vbn rfl c53 rfl)) (Y.load (v:=.int .i64 x34.slot) rfl (by kernel_rfl) (beC (blkCell B48 (i:=1) rfl))) ?_
   obtain ⟨x65,hx68,hm⟩:=bnd hm
   obtain ⟨k66,hk69,hl70,hx68⟩:=getI_some hx68
   obtain ⟨b72,o73,rfl,hbb72⟩:=h64.addr (by omega)
   obtain ⟨cs67,hRcs67,hc71⟩:=h64.el hx68
   have hScs67:=hRcs67
   obtain rfl:=hRcs67
   refine RQ.y (wantT (dj:=60) rfl (vbn rfl c53 rfl)) (Y.indexAddr (m:=k66) (sz:=2) rfl rfl hk69 hl70 (by kernel_rfl))<|RQ.y (wantT (dj:=60) rfl (vbn rfl c53 rfl)) (Y.loadN (cs:=[.int .i64 x65.agent,.int .i64 x65.slot]) rfl (by kernel_rfl) (cells2 (beC (cellT T (hc71 0 _ rfl))) (beC (cellT T (hc71 1 _ rfl)))))<|RQ.y (wantT (dj:=60) rfl (vbn rfl c53 rfl)) (Y.loadN (cs:=[.int .i64 i8,.int .i64 i24]) rfl (by kernel_rfl) (cells2 (beC (blkCell B32 (i:=0) rfl)) (beC (blkCell B32 (i:=1) rfl))))<|RQ.y (wantT (dj:=60) rfl (vbn rfl c53 rfl)) (Y.neS (b:=(x65.agent==i8 && x65.slot==i24)) rfl rfl (eqPort_run _ _ _ _) (eqGuardPort_run _ _ _ _ _))<|RQ.y rfl (Y.pick (b:=false) (v:=.bool (!(x65.agent==i8 && x65.slot==i24))) (vbn rfl c53 rfl) rfl)<|RQ.nil ?_
   intro w74 hb75
   have szw74:=hb75.size
   have T:=Tt T hb75
   refine then_n ?_
   rcases bcases (x65.agent==i8 && x65.slot==i24) with c76|c76
   ·replace hm:=cF c76 hm
    refine cond_t rfl (vbn rfl c76 rfl)<|wp_seq<|wp_rs rfl<|RQ.y rfl (Y.assign (v:=.bool false) rfl)<|RQ.nil<|then_n<|wp_ret ?_
    obtain rfl:=sj hm
    exact (blk_r (then_r (then_r (hit_r (blk_r (blk_r (then_r (then_r (hit_r (blk_r (then_r (ret1 rfl rfl rfl ⟨rfl,T⟩))))))))))))
   replace hm:=cT c76 hm
   refine cond_f rfl (vbn rfl c76 rfl)<|wp_skip ?_
   refine blk_n (then_n ?_)
   refine wp_rs rfl<|RQ.y rfl (Y.move (v:=.int .i64 i24) s5_2)<|RQ.y rfl (Y.binI rfl rfl (binI_add (m:=i24) (by omega)))<|RQ.y rfl (Y.assign (v:=.int .i64 (i24+1)) rfl)<|RQ.nil ?_
   exact (then_n ⟨g,_,Nat.lt_succ_self _,rfl,⟨(i24+1),s0_2,s3_2,s4_2,rfl,(by omega),T,(by rw [← hrec2]; exact hm)⟩⟩)
  replace hm:=cT c50 hm
  iterate 7 refine RQ.skip (wantN (dj:=51) rfl (vb rfl c50) rfl) ?_
  refine RQ.y rfl (Y.pick (b:=true) (v:=.bool true) (vb rfl c50) rfl)<|RQ.y rfl (Y.move (v:=.bool true) rfl) ?_
  iterate 15 refine RQ.skip (wantN (dj:=60) rfl rfl rfl) ?_
  refine RQ.y rfl (Y.pick (b:=true) (v:=.bool true) rfl rfl)<|RQ.nil ?_
  intro w77 hb78
  have szw77:=hb78.size
  have T:=Tt T hb78
  refine then_n<|cond_t rfl rfl<|wp_seq<|wp_rs rfl<|RQ.y rfl (Y.assign (v:=.bool false) rfl)<|RQ.nil<|then_n<|wp_ret ?_
  obtain rfl:=sj hm
  exact (blk_r (then_r (then_r (hit_r (blk_r (blk_r (then_r (then_r (hit_r (blk_r (then_r (ret1 rfl rfl rfl ⟨rfl,T⟩))))))))))))
def m_impl_isDefIndex (d0:Int):Option Bool:=
  (bif (decide (d0 ≥ 0)) then some (decide (d0 < 24)) else some false)
set_option maxHeartbeats 2000000 in
theorem c_m_impl_isDefIndex (d0:Int) (r:Bool) (hm:m_impl_isDefIndex d0=some r)  (w:World)  :
    Calls Tryz.prog 101 #[.int .i64 d0] w fun e w'=>e=.returned (.bool r)∧Below w.heap.size w w':=by
  have T:=Below.refl w.heap.size w
  unfold m_impl_isDefIndex at hm
  refine enter 9 Tryz.func101 rfl rfl rfl ?_
  intro f hf
  have s0:f 0=.int .i64 d0:=hf 0 _ rfl
  refine wp_seq<|wp_rs rfl<|RQ.y rfl (Y.assign (v:=.bool false) rfl)<|RQ.nil<|then_n<|wp_seq<|wp_rs rfl<|RQ.y rfl (Y.move (v:=.int .i64 d0) s0)<|RQ.y rfl (Y.binI (v:=.bool (decide (d0 ≥ 0))) rfl rfl rfl)<|RQ.y rfl (Y.move (v:=.bool (decide (d0 ≥ 0))) rfl) ?_
  rcases bcases (decide (d0 ≥ 0)) with c1|c1
  ·replace hm:=cF c1 hm
   have pc1:=of_decide_eq_false c1
   refine RQ.skip (wantN (dj:=5) rfl (vb rfl c1) rfl)<|RQ.skip (wantN (dj:=5) rfl (vb rfl c1) rfl)<|RQ.y rfl (Y.pick (b:=false) (v:=.bool false) (vb rfl c1) rfl)<|RQ.y rfl (Y.assign (v:=.bool false) rfl)<|RQ.nil<|then_n<|wp_ret ?_
   obtain rfl:=sj hm
   exact (ret1 rfl rfl rfl ⟨rfl,T⟩)
  replace hm:=cT c1 hm
  have pc1:=of_decide_eq_true c1
  refine RQ.y (wantT (dj:=5) rfl (vb rfl c1)) (Y.move (v:=.int .i64 d0) s0)<|RQ.y (wantT (dj:=5) rfl (vb rfl c1)) (Y.binI (v:=.bool (decide (d0 < 24))) rfl rfl rfl)<|RQ.y rfl (Y.pick (b:=true) (v:=.bool (decide (d0 < 24))) (vb rfl c1) rfl)<|RQ.y rfl (Y.assign (v:=.bool (decide (d0 < 24))) rfl)<|RQ.nil<|then_n<|wp_ret ?_
  obtain rfl:=sj hm
  exact (ret1 rfl rfl rfl ⟨rfl,T⟩)
def m_impl_isInt (d0:Int):Option Bool:=
  (bif (decide (d0 ≥ (-2147483648))) then some (decide (d0≤2147483647)) else some false)
set_option maxHeartbeats 2000000 in
theorem c_m_impl_isInt (d0:Int) (r:Bool) (hm:m_impl_isInt d0=some r)  (w:World)  :
    Calls Tryz.prog 87 #[.int .i64 d0] w fun e w'=>e=.returned (.bool r)∧Below w.heap.size w w':=by
  have T:=Below.refl w.heap.size w
  unfold m_impl_isInt at hm
  refine enter 9 Tryz.func87 rfl rfl rfl ?_
  intro f hf
  have s0:f 0=.int .i64 d0:=hf 0 _ rfl
  refine wp_seq<|wp_rs rfl<|RQ.y rfl (Y.assign (v:=.bool false) rfl)<|RQ.nil<|then_n<|wp_seq<|wp_rs rfl<|RQ.y rfl (Y.move (v:=.int .i64 d0) s0)<|RQ.y rfl (Y.binI (v:=.bool (decide (d0 ≥ (-2147483648)))) rfl rfl rfl)<|RQ.y rfl (Y.move (v:=.bool (decide (d0 ≥ (-2147483648)))) rfl) ?_
  rcases bcases (decide (d0 ≥ (-2147483648))) with c1|c1
  ·replace hm:=cF c1 hm
   have pc1:=of_decide_eq_false c1
   refine RQ.skip (wantN (dj:=5) rfl (vb rfl c1) rfl)<|RQ.skip (wantN (dj:=5) rfl (vb rfl c1) rfl)<|RQ.y rfl (Y.pick (b:=false) (v:=.bool false) (vb rfl c1) rfl)<|RQ.y rfl (Y.assign (v:=.bool false) rfl)<|RQ.nil<|then_n<|wp_ret ?_
   obtain rfl:=sj hm
   exact (ret1 rfl rfl rfl ⟨rfl,T⟩)
  replace hm:=cT c1 hm
  have pc1:=of_decide_eq_true c1
  refine RQ.y (wantT (dj:=5) rfl (vb rfl c1)) (Y.move (v:=.int .i64 d0) s0)<|RQ.y (wantT (dj:=5) rfl (vb rfl c1)) (Y.binI (v:=.bool (decide (d0≤2147483647))) rfl rfl rfl)<|RQ.y rfl (Y.pick (b:=true) (v:=.bool (decide (d0≤2147483647))) (vb rfl c1) rfl)<|RQ.y rfl (Y.assign (v:=.bool (decide (d0≤2147483647))) rfl)<|RQ.nil<|then_n<|wp_ret ?_
  obtain rfl:=sj hm
  exact (ret1 rfl rfl rfl ⟨rfl,T⟩)
def m_impl_isOperator (d0:Int):Option Bool:=
  (bif (decide (d0 ≥ 1)) then some (decide (d0≤6)) else some false)
set_option maxHeartbeats 2000000 in
theorem c_m_impl_isOperator (d0:Int) (r:Bool) (hm:m_impl_isOperator d0=some r)  (w:World)  :
    Calls Tryz.prog 102 #[.int .i64 d0] w fun e w'=>e=.returned (.bool r)∧Below w.heap.size w w':=by
  have T:=Below.refl w.heap.size w
  unfold m_impl_isOperator at hm
  refine enter 9 Tryz.func102 rfl rfl rfl ?_
  intro f hf
  have s0:f 0=.int .i64 d0:=hf 0 _ rfl
  refine wp_seq<|wp_rs rfl<|RQ.y rfl (Y.assign (v:=.bool false) rfl)<|RQ.nil<|then_n<|wp_seq<|wp_rs rfl<|RQ.y rfl (Y.move (v:=.int .i64 d0) s0)<|RQ.y rfl (Y.binI (v:=.bool (decide (d0 ≥ 1))) rfl rfl rfl)<|RQ.y rfl (Y.move (v:=.bool (decide (d0 ≥ 1))) rfl) ?_
  rcases bcases (decide (d0 ≥ 1)) with c1|c1
  ·replace hm:=cF c1 hm
   have pc1:=of_decide_eq_false c1
   refine RQ.skip (wantN (dj:=5) rfl (vb rfl c1) rfl)<|RQ.skip (wantN (dj:=5) rfl (vb rfl c1) rfl)<|RQ.y rfl (Y.pick (b:=false) (v:=.bool false) (vb rfl c1) rfl)<|RQ.y rfl (Y.assign (v:=.bool false) rfl)<|RQ.nil<|then_n<|wp_ret ?_
   obtain rfl:=sj hm
   exact (ret1 rfl rfl rfl ⟨rfl,T⟩)
  replace hm:=cT c1 hm
  have pc1:=of_decide_eq_true c1
  refine RQ.y (wantT (dj:=5) rfl (vb rfl c1)) (Y.move (v:=.int .i64 d0) s0)<|RQ.y (wantT (dj:=5) rfl (vb rfl c1)) (Y.binI (v:=.bool (decide (d0≤6))) rfl rfl rfl)<|RQ.y rfl (Y.pick (b:=true) (v:=.bool (decide (d0≤6))) (vb rfl c1) rfl)<|RQ.y rfl (Y.assign (v:=.bool (decide (d0≤6))) rfl)<|RQ.nil<|then_n<|wp_ret ?_
  obtain rfl:=sj hm
  exact (ret1 rfl rfl rfl ⟨rfl,T⟩)
def m_impl_fieldsOf (d0:Int) (d1:Int):Option Int:=
  (bif (d0==9) then ((ck (d1 - 1)).bind fun s2=>some s2) else some 0)
set_option maxHeartbeats 2000000 in
theorem c_m_impl_fieldsOf (d0:Int) (d1:Int) (r:Int) (hm:m_impl_fieldsOf d0 d1=some r)  (w:World)  :
    Calls Tryz.prog 97 #[.int .i64 d0,.int .i64 d1] w fun e w'=>e=.returned (.int .i64 r)∧Below w.heap.size w w':=by
  have T:=Below.refl w.heap.size w
  unfold m_impl_fieldsOf at hm
  refine enter 9 Tryz.func97 rfl rfl rfl ?_
  intro f hf
  have s0:f 0=.int .i64 d0:=hf 0 _ rfl
  have s1:f 1=.int .i64 d1:=hf 1 _ rfl
  refine wp_seq<|wp_rs rfl<|RQ.y rfl (Y.assign (v:=.int .i64 0) rfl)<|RQ.nil<|then_n<|wp_seq<|wp_seq<|wp_rs rfl<|RQ.y rfl (Y.move (v:=.int .i64 d0) s0)<|RQ.y rfl (Y.binI (v:=.bool (d0==9)) rfl rfl rfl)<|RQ.nil<|then_n ?_
  rcases bcases (d0==9) with c1|c1
  ·replace hm:=cF c1 hm
   refine cond_f rfl (vb rfl c1)<|wp_skip<|then_n<|wp_seq<|wp_rs rfl<|RQ.y rfl (Y.assign (v:=.int .i64 0) rfl)<|RQ.nil<|then_n<|wp_ret ?_
   obtain rfl:=sj hm
   exact (ret1 rfl rfl rfl ⟨rfl,T⟩)
  replace hm:=cT c1 hm
  refine cond_t rfl (vb rfl c1)<|wp_seq<|wp_rs rfl<|RQ.y rfl (Y.move (v:=.int .i64 d1) s1) ?_
  obtain ⟨s2,ks2,hm⟩:=bnd hm
  replace ks2:=ck_some ks2
  refine RQ.y rfl (Y.binI (v:=.int .i64 s2) rfl rfl (by rw [binI_sub ks2.2,ks2.1]))<|RQ.y rfl (Y.assign (v:=.int .i64 s2) rfl)<|RQ.nil<|then_n<|wp_ret ?_
  obtain rfl:=sj hm
  exact (then_r (ret1 rfl rfl rfl ⟨rfl,T⟩))
def m_impl_wellFormed_1 (d0:Int):Option Bool:=
  ((m_impl_isDefIndex d0).bind fun y1=>some (!y1))
set_option maxHeartbeats 2000000 in
theorem c_m_impl_wellFormed_1 (d0:Int) (r:Bool) (hm:m_impl_wellFormed_1 d0=some r)  (w:World)  :
    Calls Tryz.prog 100 #[.int .i64 d0] w fun e w'=>e=.returned (.bool r)∧Below w.heap.size w w':=by
  have T:=Below.refl w.heap.size w
  unfold m_impl_wellFormed_1 at hm
  refine enter 6 Tryz.func100 rfl rfl rfl ?_
  intro f hf
  have s0:f 0=.int .i64 d0:=hf 0 _ rfl
  refine wp_seq<|wp_rs rfl<|RQ.y rfl (Y.assign (v:=.bool false) rfl)<|RQ.nil<|then_n<|wp_seq<|wp_rb rfl<|RQ.y rfl (Y.move (v:=.int .i64 d0) s0) ?_
  obtain ⟨y1,e2,hm⟩:=bnd hm
  refine RQ.call rfl (am1 rfl) (by kernel_rfl) (v:=.bool y1) (bel (K:=fun _=>True) fun w' hb'=>(c_m_impl_isDefIndex d0 _ e2  w' ))<|RQ.y rfl (Y.not (b':=(!y1)) rfl rfl)<|RQ.y rfl (Y.assign (v:=.bool (!y1)) rfl)<|RQ.nil ?_
  intro w3 hb4
  have szw3:=hb4.size
  have T:=Tt T hb4
  refine then_n<|wp_ret ?_
  obtain rfl:=sj hm
  exact (ret1 rfl rfl rfl ⟨rfl,T⟩)
def m_impl_hasPort (d0:List DAgent) (d1:DPort):Option Bool:=
  (bif (decide (d1.agent ≥ 0)) then (bif (decide (d1.agent < (d0.length:Int))) then (bif (decide (d1.slot ≥ 0)) then ((getI d0 d1.agent).bind fun x14=>some (decide (d1.slot < (x14.ports.length:Int)))) else some false) else some false) else some false)
set_option maxHeartbeats 2000000 in
theorem c_m_impl_hasPort (d0:List DAgent) (d1:DPort) (r:Bool) (hm:m_impl_hasPort d0 d1=some r) (v0:Value) (w:World) (hv0:Sl agentRd 5 w v0 d0) :
    Calls Tryz.prog 37 #[v0,.agg #[.int .i64 d1.agent,.int .i64 d1.slot]] w fun e w'=>e=.returned (.bool r)∧Below w.heap.size w w':=by
  obtain ⟨Aa0,na0,ca0,rfl,ha0,ra0⟩:=hv0
  have ea0:=ha0.len; subst ea0
  have qa0:=len_le ra0
  have T:=Below.refl w.heap.size w
  unfold m_impl_hasPort at hm
  refine enter 32 Tryz.func37 rfl rfl rfl ?_
  intro f hf
  have s0:f 0=.slice Aa0 d0.length ca0:=hf 0 _ rfl
  have s1:f 1=.agg #[.int .i64 d1.agent,.int .i64 d1.slot]:=hf 1 _ rfl
  refine wp_seq<|wp_rl rfl ?_
  refine RL.box rfl s1 (fun w1 B2 hb3 szw1=>?_)
  replace B2:Blk w1 w.heap.size 61 #[.int .i64 d1.agent,.int .i64 d1.slot]:=B2
  have GB2:w.heap.size≤w.heap.size:=T.size
  have T:=Tt T hb3
  refine RL.y rfl (Y.assign (v:=.bool false) rfl)<|RL.nil<|then_n<|wp_seq<|wp_rbd (by kernel_rfl) (by kernel_rfl)<|RQ.y rfl (Y.fieldAddr (off:=0) rfl (by kernel_rfl))<|RQ.y rfl (Y.load (v:=.int .i64 d1.agent) rfl (by kernel_rfl) (beC (blkCell B2 (i:=0) rfl)))<|RQ.y rfl (Y.binI (v:=.bool (decide (d1.agent ≥ 0))) rfl rfl rfl)<|RQ.y rfl (Y.move (v:=.bool (decide (d1.agent ≥ 0))) rfl) ?_
  rcases bcases (decide (d1.agent ≥ 0)) with c5|c5
  ·replace hm:=cF c5 hm
   have pc5:=of_decide_eq_false c5
   iterate 5 refine RQ.skip (wantN (dj:=8) rfl (vb rfl c5) rfl) ?_
   refine RQ.y rfl (Y.pick (b:=false) (v:=.bool false) (vb rfl c5) rfl)<|RQ.y rfl (Y.move (v:=.bool false) rfl) ?_
   iterate 3 refine RQ.skip (wantN (dj:=15) rfl rfl rfl) ?_
   refine RQ.y rfl (Y.pick (b:=false) (v:=.bool false) rfl rfl)<|RQ.y rfl (Y.move (v:=.bool false) rfl) ?_
   iterate 10 refine RQ.skip (wantN (dj:=20) rfl rfl rfl) ?_
   refine RQ.y rfl (Y.pick (b:=false) (v:=.bool false) rfl rfl)<|RQ.y rfl (Y.assign (v:=.bool false) rfl)<|RQ.nil ?_
   intro w6 hb7
   have szw6:=hb7.size
   have T:=Tt T hb7
   refine then_n<|wp_ret ?_
   obtain rfl:=sj hm
   exact (ret1 rfl rfl rfl ⟨rfl,T⟩)
  replace hm:=cT c5 hm
  have pc5:=of_decide_eq_true c5
  refine RQ.y (wantT (dj:=8) rfl (vb rfl c5)) (Y.fieldAddr (off:=0) rfl (by kernel_rfl))<|RQ.y (wantT (dj:=8) rfl (vb rfl c5)) (Y.load (v:=.int .i64 d1.agent) rfl (by kernel_rfl) (beC (blkCell B2 (i:=0) rfl)))<|RQ.y (wantT (dj:=8) rfl (vb rfl c5)) (Y.move (v:=.slice Aa0 d0.length ca0) s0)<|RQ.y (wantT (dj:=8) rfl (vb rfl c5)) (Y.len (by kernel_rfl) rfl)<|RQ.y (wantT (dj:=8) rfl (vb rfl c5)) (Y.binI (v:=.bool (decide (d1.agent < (d0.length:Int)))) rfl rfl rfl)<|RQ.y rfl (Y.pick (b:=true) (v:=.bool (decide (d1.agent < (d0.length:Int)))) (vb rfl c5) rfl)<|RQ.y rfl (Y.move (v:=.bool (decide (d1.agent < (d0.length:Int)))) rfl) ?_
  rcases bcases (decide (d1.agent < (d0.length:Int))) with c8|c8
  ·replace hm:=cF c8 hm
   have pc8:=of_decide_eq_false c8
   iterate 3 refine RQ.skip (wantN (dj:=15) rfl (vb rfl c8) rfl) ?_
   refine RQ.y rfl (Y.pick (b:=false) (v:=.bool false) (vb rfl c8) rfl)<|RQ.y rfl (Y.move (v:=.bool false) rfl) ?_
   iterate 10 refine RQ.skip (wantN (dj:=20) rfl rfl rfl) ?_
   refine RQ.y rfl (Y.pick (b:=false) (v:=.bool false) rfl rfl)<|RQ.y rfl (Y.assign (v:=.bool false) rfl)<|RQ.nil ?_
   intro w9 hb10
   have szw9:=hb10.size
   have T:=Tt T hb10
   refine then_n<|wp_ret ?_
   obtain rfl:=sj hm
   exact (ret1 rfl rfl rfl ⟨rfl,T⟩)
  replace hm:=cT c8 hm
  have pc8:=of_decide_eq_true c8
  refine RQ.y (wantT (dj:=15) rfl (vb rfl c8)) (Y.fieldAddr (off:=1) rfl (by kernel_rfl))<|RQ.y (wantT (dj:=15) rfl (vb rfl c8)) (Y.load (v:=.int .i64 d1.slot) rfl (by kernel_rfl) (beC (blkCell B2 (i:=1) rfl)))<|RQ.y (wantT (dj:=15) rfl (vb rfl c8)) (Y.binI (v:=.bool (decide (d1.slot ≥ 0))) rfl rfl rfl)<|RQ.y rfl (Y.pick (b:=true) (v:=.bool (decide (d1.slot ≥ 0))) (vb rfl c8) rfl)<|RQ.y rfl (Y.move (v:=.bool (decide (d1.slot ≥ 0))) rfl) ?_
  rcases bcases (decide (d1.slot ≥ 0)) with c11|c11
  ·replace hm:=cF c11 hm
   have pc11:=of_decide_eq_false c11
   iterate 10 refine RQ.skip (wantN (dj:=20) rfl (vb rfl c11) rfl) ?_
   refine RQ.y rfl (Y.pick (b:=false) (v:=.bool false) (vb rfl c11) rfl)<|RQ.y rfl (Y.assign (v:=.bool false) rfl)<|RQ.nil ?_
   intro w12 hb13
   have szw12:=hb13.size
   have T:=Tt T hb13
   refine then_n<|wp_ret ?_
   obtain rfl:=sj hm
   exact (ret1 rfl rfl rfl ⟨rfl,T⟩)
  replace hm:=cT c11 hm
  have pc11:=of_decide_eq_true c11
  refine RQ.y (wantT (dj:=20) rfl (vb rfl c11)) (Y.fieldAddr (off:=1) rfl (by kernel_rfl))<|RQ.y (wantT (dj:=20) rfl (vb rfl c11)) (Y.load (v:=.int .i64 d1.slot) rfl (by kernel_rfl) (beC (blkCell B2 (i:=1) rfl)))<|RQ.y (wantT (dj:=20) rfl (vb rfl c11)) (Y.move (v:=.slice Aa0 d0.length ca0) s0)<|RQ.y (wantT (dj:=20) rfl (vb rfl c11)) (Y.fieldAddr (off:=0) rfl (by kernel_rfl))<|RQ.y (wantT (dj:=20) rfl (vb rfl c11)) (Y.load (v:=.int .i64 d1.agent) rfl (by kernel_rfl) (beC (blkCell B2 (i:=0) rfl))) ?_
  obtain ⟨x14,hx17,hm⟩:=bnd hm
  obtain ⟨k15,hk18,hl19,hx17⟩:=getI_some hx17
  obtain ⟨b21,o22,rfl,hbb21⟩:=ha0.addr (by omega)
  obtain ⟨cs16,hRcs16,hc20⟩:=ha0.el hx17
  have hScs16:=hRcs16
  obtain ⟨A23,n23,c23,A24,n24,c24,rfl,⟨h23,r23⟩,⟨h24,r24⟩⟩:=hRcs16
  have e23:=h23.len; subst e23
  have q23:=len_le r23
  have e24:=h24.len; subst e24
  have q24:=len_le r24
  refine RQ.y (wantT (dj:=20) rfl (vb rfl c11)) (Y.indexAddr (m:=k15) (sz:=5) rfl rfl hk18 hl19 (by kernel_rfl))<|RQ.y (wantT (dj:=20) rfl (vb rfl c11)) (Y.fieldAddr (off:=4) rfl (by kernel_rfl))<|RQ.y (wantT (dj:=20) rfl (vb rfl c11)) (Y.load (v:=.slice A24 x14.ports.length c24) rfl (by kernel_rfl) (beC (cellT T (hc20 4 _ rfl))))<|RQ.y (wantT (dj:=20) rfl (vb rfl c11)) (Y.len (by kernel_rfl) rfl)<|RQ.y (wantT (dj:=20) rfl (vb rfl c11)) (Y.binI (v:=.bool (decide (d1.slot < (x14.ports.length:Int)))) rfl rfl rfl)<|RQ.y rfl (Y.pick (b:=true) (v:=.bool (decide (d1.slot < (x14.ports.length:Int)))) (vb rfl c11) rfl)<|RQ.y rfl (Y.assign (v:=.bool (decide (d1.slot < (x14.ports.length:Int)))) rfl)<|RQ.nil ?_
  intro w25 hb26
  have szw25:=hb26.size
  have T:=Tt T hb26
  refine then_n<|wp_ret ?_
  obtain rfl:=sj hm
  exact (ret1 rfl rfl rfl ⟨rfl,T⟩)
def m_impl_Net_peer (d0:DNet) (d1:DPort):Option DPort:=
  ((getI d0.agents d1.agent).bind fun x12=>((getI x12.ports d1.slot).bind fun x23=>some x23))
set_option maxHeartbeats 2000000 in
theorem c_m_impl_Net_peer (d0:DNet) (d1:DPort) (r:DPort) (hm:m_impl_Net_peer d0 d1=some r) (v0:Value) (w:World) (hv0:Pt netRd w v0 d0) :
    Calls Tryz.prog 36 #[v0,.agg #[.int .i64 d1.agent,.int .i64 d1.slot]] w fun e w'=>e=.returned (.agg #[.int .i64 r.agent,.int .i64 r.slot])∧Below w.heap.size w w':=by
  obtain ⟨ba0,oa0,csa0,rfl,hba0,hRa0,hca0⟩:=hv0
  have hSa0:=hRa0
  obtain ⟨A1,n1,c1,rfl,⟨h1,r1⟩⟩:=hRa0
  have e1:=h1.len; subst e1
  have q1:=len_le r1
  have T:=Below.refl w.heap.size w
  unfold m_impl_Net_peer at hm
  refine enter 18 Tryz.func36 rfl rfl rfl ?_
  intro f hf
  have s0:f 0=.pointer (some ⟨ba0,oa0,none⟩):=hf 0 _ rfl
  have s1:f 1=.agg #[.int .i64 d1.agent,.int .i64 d1.slot]:=hf 1 _ rfl
  refine wp_seq<|wp_rl rfl ?_
  refine RL.box rfl s1 (fun w2 B3 hb4 szw2=>?_)
  replace B3:Blk w2 w.heap.size 61 #[.int .i64 d1.agent,.int .i64 d1.slot]:=B3
  have GB3:w.heap.size≤w.heap.size:=T.size
  have T:=Tt T hb4
  refine RL.alloc (z:=.agg #[.int .i64 0,.int .i64 0]) rfl (by kernel_rfl) (fun w6 B7 hb8 szw6=>?_)
  replace B7:Blk w6 w2.heap.size 61 #[.int .i64 0,.int .i64 0]:=B7
  have GB7:w.heap.size≤w2.heap.size:=T.size
  have Eob9_ob5:=Nat.ne_of_lt B3.lt
  have B3:=blkT B3 hb8
  have T:=Tt T hb8
  refine RL.nil<|then_n<|wp_seq ?_
  refine wp_rg (fun w'=>Below w.heap.size w w'∧Blk w' w.heap.size 61 #[.int .i64 d1.agent,.int .i64 d1.slot]) [(0,true),(1,true),(2,true),(3,true),(4,true),(5,true),(6,true),(7,true),(8,true),(9,true),(10,true),(11,true),(12,true),(13,false)] (by kernel_rfl) (by kernel_rfl) (fun w10 hb11 szw10=>?_)
  have B3:=blkT B3 hb11
  have B7:=blkT B7 hb11
  have T:=Tt T hb11
  refine ⟨⟨T,B3⟩,?_⟩
  refine RG.y rfl rfl (Y.move (v:=.pointer (some ⟨ba0,oa0,none⟩)) s0)<|RG.y rfl rfl (Y.nilCheck rfl)<|RG.y rfl rfl (Y.fieldAddr (off:=0) rfl (by kernel_rfl))<|RG.y rfl rfl (Y.load (v:=.slice A1 d0.agents.length c1) rfl (by kernel_rfl) (fun w' hS=>(cellT hS.1 (hca0 0 _ rfl))))<|RG.y rfl rfl (Y.fieldAddr (off:=0) rfl (by kernel_rfl))<|RG.y rfl rfl (Y.load (v:=.int .i64 d1.agent) rfl (by kernel_rfl) (fun w' hS=>(blkCell hS.2 (i:=0) rfl))) ?_
  obtain ⟨x12,hx15,hm⟩:=bnd hm
  obtain ⟨k13,hk16,hl17,hx15⟩:=getI_some hx15
  obtain ⟨b19,o20,rfl,hbb19⟩:=h1.addr (by omega)
  obtain ⟨cs14,hRcs14,hc18⟩:=h1.el hx15
  have hScs14:=hRcs14
  obtain ⟨A21,n21,c21,A22,n22,c22,rfl,⟨h21,r21⟩,⟨h22,r22⟩⟩:=hRcs14
  have e21:=h21.len; subst e21
  have q21:=len_le r21
  have e22:=h22.len; subst e22
  have q22:=len_le r22
  refine RG.y rfl rfl (Y.indexAddr (m:=k13) (sz:=5) rfl rfl hk16 hl17 (by kernel_rfl))<|RG.y rfl rfl (Y.fieldAddr (off:=4) rfl (by kernel_rfl))<|RG.y rfl rfl (Y.load (v:=.slice A22 x12.ports.length c22) rfl (by kernel_rfl) (fun w' hS=>(cellT hS.1 (hc18 4 _ rfl))))<|RG.y rfl rfl (Y.fieldAddr (off:=1) rfl (by kernel_rfl))<|RG.y rfl rfl (Y.load (v:=.int .i64 d1.slot) rfl (by kernel_rfl) (fun w' hS=>(blkCell hS.2 (i:=1) rfl))) ?_
  obtain ⟨x23,hx26,hm⟩:=bnd hm
  obtain ⟨k24,hk27,hl28,hx26⟩:=getI_some hx26
  obtain ⟨b30,o31,rfl,hbb30⟩:=h22.addr (by omega)
  obtain ⟨cs25,hRcs25,hc29⟩:=h22.el hx26
  have hScs25:=hRcs25
  obtain rfl:=hRcs25
  refine RG.y rfl rfl (Y.indexAddr (m:=k24) (sz:=2) rfl rfl hk27 hl28 (by kernel_rfl))<|RG.y rfl rfl (Y.loadN (cs:=[.int .i64 x23.agent,.int .i64 x23.slot]) rfl (by kernel_rfl) (cells2 (fun w' hS=>(cellT hS.1 (hc29 0 _ rfl))) (fun w' hS=>(cellT hS.1 (hc29 1 _ rfl)))))<|RG.act rfl ?_
  refine RL.store (v:=.agg #[.int .i64 x23.agent,.int .i64 x23.slot]) (cs':=#[.int .i64 x23.agent,.int .i64 x23.slot]) rfl rfl rfl B7 (by kernel_rfl) (by rfl) (by rfl) (by rfl) (fun w32 B33 ho34=>?_)
  have szw32:=ho34.size
  have B3:=B3.only_ ho34 (by intro hin; simp at hin; exact Eob9_ob5 hin)
  have T:=T.trans (ho34.below (by simp; omega))
  refine RL.nil ⟨⟨T,B3⟩,?_⟩
  refine RG.nil<|then_n<|wp_ret ?_
  obtain rfl:=sj hm
  exact (retc (cs:=[.int .i64 x23.agent,.int .i64 x23.slot]) rfl rfl rfl (by kernel_rfl) (blkCells B33) ⟨rfl,T⟩)
end
section
open Go.RowKit
set_option maxRecDepth 100000
def m_impl_Net_ports_A1 (xs2:List DPort):Option (List DPort):=
  some xs2
def m_impl_Net_ports_A2 (rec1:List DPort→Int→Option (List DPort)) (i5:Int) (xs26:List DPort):Option (List DPort):=
  ((ck (i5+1)).bind fun s28=>(rec1 xs26 s28))
def m_impl_Net_ports_B2 (i5:Int) (x8:DAgent) (rec2:List DPort→Int→Option (List DPort)) (K2:List DPort→Option (List DPort)) (xs29:List DPort) (i30:Int):Option (List DPort):=
  (bif (decide (i30 < (x8.ports.length:Int))) then ((mustP (xs29.length+([(⟨i5,i30⟩:DPort)]).length≤4294967296)).bind fun _=>(rec2 (xs29 ++ [(⟨i5,i30⟩:DPort)]) (i30+1))) else (K2 xs29))
def m_impl_Net_ports_L2 (i5:Int) (x8:DAgent) (K2:List DPort→Option (List DPort)):Nat→List DPort→Int→Option (List DPort)
  |0,_,_=>none
  |g+1,xs29,i30=>m_impl_Net_ports_B2 i5 x8 (m_impl_Net_ports_L2 i5 x8 K2 g) K2 xs29 i30
def m_impl_Net_ports_B1 (d0:DNet) (rec1:List DPort→Int→Option (List DPort)) (K1:List DPort→Option (List DPort)) (xs4:List DPort) (i5:Int):Option (List DPort):=
  (bif (decide (i5 < (d0.agents.length:Int))) then ((getI d0.agents i5).bind fun x8=>(m_impl_Net_ports_L2 i5 x8 (m_impl_Net_ports_A2 rec1 i5) (x8.ports.length+1) xs4 0)) else (K1 xs4))
def m_impl_Net_ports_L1 (d0:DNet) (K1:List DPort→Option (List DPort)):Nat→List DPort→Int→Option (List DPort)
  |0,_,_=>none
  |g+1,xs4,i5=>m_impl_Net_ports_B1 d0 (m_impl_Net_ports_L1 d0 K1 g) K1 xs4 i5
def m_impl_Net_ports (d0:DNet):Option (List DPort):=
  (m_impl_Net_ports_L1 d0 m_impl_Net_ports_A1 (d0.agents.length+1) ([] : List DPort) 0)
set_option maxHeartbeats 2000000 in
theorem c_m_impl_Net_ports (d0:DNet) (r:List DPort) (hm:m_impl_Net_ports d0=some r) (v0:Value) (w:World) (hv0:Pt netRd w v0 d0) :
    Calls Tryz.prog 34 #[v0] w fun e w'=>(∃v,e=.returned v∧OwF 61 encPort 2 w' w.heap.size v r)∧Below w.heap.size w w':=by
  obtain ⟨ba0,oa0,csa0,rfl,hba0,hRa0,hca0⟩:=hv0
  have hSa0:=hRa0
  obtain ⟨A1,n1,c1,rfl,⟨h1,r1⟩⟩:=hRa0
  have e1:=h1.len; subst e1
  have q1:=len_le r1
  have T:=Below.refl w.heap.size w
  unfold m_impl_Net_ports at hm
  refine enter 32 Tryz.func34 rfl rfl rfl ?_
  intro f hf
  have s0:f 0=.pointer (some ⟨ba0,oa0,none⟩):=hf 0 _ rfl
  refine wp_seq<|wp_rs rfl<|RQ.y rfl (Y.assign (v:=.slice none 0 0) rfl)<|RQ.nil<|then_n<|wp_seq<|wp_rs rfl<|RQ.y rfl (Y.assign (v:=.slice none 0 0) rfl)<|RQ.nil<|then_n<|wp_seq<|wp_seq<|wp_rs rfl<|RQ.y rfl (Y.move (v:=.pointer (some ⟨ba0,oa0,none⟩)) s0)<|RQ.y rfl (Y.nilCheck rfl)<|RQ.y rfl (Y.fieldAddr (off:=0) rfl (by kernel_rfl))<|RQ.y rfl (Y.load (v:=.slice A1 d0.agents.length c1) rfl (by kernel_rfl) (eqC (cellT T (hca0 0 _ rfl))))<|RQ.y rfl (Y.len (by kernel_rfl) rfl)<|RQ.y rfl (Y.move (v:=.int .i64 0) rfl)<|RQ.nil<|then_n<|wp_block ?_
  have G50:OwF 61 encPort 2 w w.heap.size (.slice none 0 0) ([] : List DPort):=OwF.nil
  obtain ⟨K1,hK1,hm⟩ :∃K,K=m_impl_Net_ports_A1∧m_impl_Net_ports_L1 d0 K (d0.agents.length+1) ([] : List DPort) 0=some r:=⟨_,rfl,hm⟩
  refine wp_loopX (fun g f w'=>∃(xs4:List DPort) (i5:Int) (uxs4:Value),f 10=.slice A1 d0.agents.length c1∧f 11=.int .i64 (d0.agents.length:Int)∧f 3=uxs4∧OwF 61 encPort 2 w' w.heap.size uxs4 xs4∧f 12=.int .i64 i5∧0≤i5∧Below w.heap.size w w'∧m_impl_Net_ports_L1 d0 K1 g xs4 i5=some r) 0 (fun f w'=>∃(xs2:List DPort) (uxs2:Value),f 3=uxs2∧OwF 61 encPort 2 w' w.heap.size uxs2 xs2∧Below w.heap.size w w'∧m_impl_Net_ports_A1 xs2=some r) (d0.agents.length+1) ⟨([] : List DPort),0,((.slice none 0 0)),rfl,rfl,rfl,G50,rfl,(by omega),T,hm⟩ ?_ ?_
  ·rintro f w3 ⟨xs2,uxs2,s3_1x,Gxs2,T,hm⟩
   unfold m_impl_Net_ports_A1 at hm
   refine blk_hit (then_n ?_)
   refine wp_seq<|wp_rs rfl<|RQ.y rfl (Y.move (v:=uxs2) s3_1x)<|RQ.y rfl (Y.assign (v:=uxs2) rfl)<|RQ.nil<|then_n<|wp_ret ?_
   obtain rfl:=sj hm
   exact (ret1 rfl rfl rfl ⟨⟨_,rfl,Gxs2⟩,T⟩)
  rintro g f w6 ⟨xs4,i5,uxs4,s10_1,s11_1,s3_1,Gxs4,s12_1,nn12_1,T,hm⟩
  rcases g with _|g
  ·simp only [m_impl_Net_ports_L1] at hm; cases hm
  obtain ⟨rec1,hrec1,hm⟩ :∃z,z=m_impl_Net_ports_L1 d0 K1 g∧m_impl_Net_ports_B1 d0 z K1 xs4 i5=some r:=⟨_,rfl,hm⟩
  unfold m_impl_Net_ports_B1 at hm
  refine wp_seq<|wp_rs rfl<|RQ.y rfl (Y.binI (v:=.bool (decide (i5 < (d0.agents.length:Int)))) s12_1 s11_1 rfl)<|RQ.nil<|then_n<|wp_seq ?_
  rcases bcases (decide (i5 < (d0.agents.length:Int))) with c7|c7
  ·replace hm:=cF c7 hm
   have pc7:=of_decide_eq_false c7
   refine cond_f rfl (vb rfl c7)<|wp_exit ?_
   exact (then_x (then_x (hit_x ⟨_,rfl,⟨xs4,(uxs4),s3_1,Gxs4,T,(by rw [hK1] at hm; exact hm)⟩⟩)))
  replace hm:=cT c7 hm
  have pc7:=of_decide_eq_true c7
  refine cond_t rfl (vb rfl c7)<|wp_skip<|then_n<|wp_seq<|wp_block<|wp_seq<|wp_rl rfl<|RL.y rfl (Y.move (v:=.int .i64 i5) s12_1) ?_
  obtain ⟨x8,hx11,hm⟩:=bnd hm
  obtain ⟨k9,hk12,hl13,hx11⟩:=getI_some hx11
  obtain ⟨b15,o16,rfl,hbb15⟩:=h1.addr (by omega)
  obtain ⟨cs10,hRcs10,hc14⟩:=h1.el hx11
  have hScs10:=hRcs10
  obtain ⟨A17,n17,c17,A18,n18,c18,rfl,⟨h17,r17⟩,⟨h18,r18⟩⟩:=hRcs10
  have e17:=h17.len; subst e17
  have q17:=len_le r17
  have e18:=h18.len; subst e18
  have q18:=len_le r18
  refine RL.y rfl (Y.indexAddr (m:=k9) (sz:=5) s10_1 s12_1 hk12 hl13 (by kernel_rfl))<|RL.y rfl (Y.loadN (cs:=[.int .i64 x8.kind,.int .i64 x8.level,.int .i64 x8.value,.slice A17 x8.data.length c17,.slice A18 x8.ports.length c18]) rfl (by kernel_rfl) (cells5 (eqC (cellT T (hc14 0 _ rfl))) (eqC (cellT T (hc14 1 _ rfl))) (eqC (cellT T (hc14 2 _ rfl))) (eqC (cellT T (hc14 3 _ rfl))) (eqC (cellT T (hc14 4 _ rfl))))) ?_
  refine RL.alloc (z:=.agg #[.int .i64 0,.int .i64 0,.int .i64 0,.slice none 0 0,.slice none 0 0]) rfl (by kernel_rfl) (fun w19 B20 hb21 szw19=>?_)
  replace B20:Blk w19 w6.heap.size 49 #[.int .i64 0,.int .i64 0,.int .i64 0,.slice none 0 0,.slice none 0 0]:=B20
  have GB20:w.heap.size≤w6.heap.size:=T.size
  have Noxs4_ob22:=OwF.far Gxs4 (Nat.le_refl _)
  have Gxs4:=OwF.below Gxs4 hb21
  have T:=Tt T hb21
  refine RL.y rfl (Y.assign (v:=.int .i64 i5) rfl) ?_
  refine RL.store (v:=.agg #[.int .i64 x8.kind,.int .i64 x8.level,.int .i64 x8.value,.slice A17 x8.data.length c17,.slice A18 x8.ports.length c18]) (cs':=#[.int .i64 x8.kind,.int .i64 x8.level,.int .i64 x8.value,.slice A17 x8.data.length c17,.slice A18 x8.ports.length c18]) rfl rfl rfl B20 (by kernel_rfl) (by rfl) (by rfl) (by rfl) (fun w23 B24 ho25=>?_)
  have szw23:=ho25.size
  have Gxs4:=OwF.only Gxs4 ho25 Noxs4_ob22
  have T:=T.trans (ho25.below (by simp; omega))
  refine RL.nil<|then_n<|wp_seq<|wp_rs rfl<|RQ.y rfl (Y.fieldAddr (off:=4) rfl (by kernel_rfl))<|RQ.y rfl (Y.load (v:=.slice A18 x8.ports.length c18) rfl (by kernel_rfl) (eqC (blkCell B24 (i:=4) rfl)))<|RQ.y rfl (Y.len (by kernel_rfl) rfl)<|RQ.y rfl (Y.move (v:=.int .i64 0) rfl)<|RQ.nil<|then_n<|wp_block ?_
  obtain ⟨K2,hK2,hm⟩ :∃K,K=(m_impl_Net_ports_A2 rec1 i5)∧m_impl_Net_ports_L2 i5 x8 K (x8.ports.length+1) xs4 0=some r:=⟨_,rfl,hm⟩
  refine wp_loopX (fun g f w'=>∃(xs29:List DPort) (i30:Int) (uxs29:Value),f 4=.int .i64 i5∧f 10=.slice (some ⟨b15,o16,none⟩) d0.agents.length c1∧f 11=.int .i64 (d0.agents.length:Int)∧f 12=.int .i64 i5∧f 19=.int .i64 (x8.ports.length:Int)∧f 3=uxs29∧OwF 61 encPort 2 w' w.heap.size uxs29 xs29∧f 20=.int .i64 i30∧0≤i30∧Below w.heap.size w w'∧m_impl_Net_ports_L2 i5 x8 K2 g xs29 i30=some r) 2 (fun f w'=>∃(xs26:List DPort) (uxs26:Value),f 10=.slice (some ⟨b15,o16,none⟩) d0.agents.length c1∧f 11=.int .i64 (d0.agents.length:Int)∧f 12=.int .i64 i5∧f 3=uxs26∧OwF 61 encPort 2 w' w.heap.size uxs26 xs26∧Below w.heap.size w w'∧m_impl_Net_ports_A2 rec1 i5 xs26=some r) (x8.ports.length+1) ⟨xs4,0,(uxs4),rfl,s10_1,s11_1,s12_1,rfl,s3_1,Gxs4,rfl,(by omega),T,hm⟩ ?_ ?_
  ·rintro f w27 ⟨xs26,uxs26,s10_2x,s11_2x,s12_2x,s3_2x,Gxs26,T,hm⟩
   unfold m_impl_Net_ports_A2 at hm
   refine blk_hit (blk_n (then_n ?_))
   refine wp_rs rfl ?_
   obtain ⟨s28,ks28,hm⟩:=bnd hm
   replace ks28:=ck_some ks28
   refine RQ.y rfl (Y.binI (v:=.int .i64 s28) s12_2x rfl (by rw [binI_add ks28.2,ks28.1]))<|RQ.y rfl (Y.move (v:=.int .i64 s28) rfl)<|RQ.nil ?_
   exact (then_n ⟨g,_,Nat.lt_succ_self _,rfl,⟨xs26,s28,(uxs26),s10_2x,s11_2x,s3_2x,Gxs26,rfl,(by omega),T,(by rw [← hrec1]; exact hm)⟩⟩)
  rintro g f w31 ⟨xs29,i30,uxs29,s4_2,s10_2,s11_2,s12_2,s19_2,s3_2,Gxs29,s20_2,nn20_2,T,hm⟩
  rcases g with _|g
  ·simp only [m_impl_Net_ports_L2] at hm; cases hm
  obtain ⟨rec2,hrec2,hm⟩ :∃z,z=m_impl_Net_ports_L2 i5 x8 K2 g∧m_impl_Net_ports_B2 i5 x8 z K2 xs29 i30=some r:=⟨_,rfl,hm⟩
  unfold m_impl_Net_ports_B2 at hm
  refine wp_seq<|wp_rs rfl<|RQ.y rfl (Y.binI (v:=.bool (decide (i30 < (x8.ports.length:Int)))) s20_2 s19_2 rfl)<|RQ.nil<|then_n<|wp_seq ?_
  rcases bcases (decide (i30 < (x8.ports.length:Int))) with c32|c32
  ·replace hm:=cF c32 hm
   have pc32:=of_decide_eq_false c32
   refine cond_f rfl (vb rfl c32)<|wp_exit ?_
   exact (then_x (then_x (hit_x ⟨_,rfl,⟨xs29,(uxs29),s10_2,s11_2,s12_2,s3_2,Gxs29,T,(by rw [hK2] at hm; exact hm)⟩⟩)))
  replace hm:=cT c32 hm
  have pc32:=of_decide_eq_true c32
  refine cond_t rfl (vb rfl c32)<|wp_skip<|then_n<|wp_seq<|wp_block<|wp_seq<|wp_rs rfl<|RQ.y rfl (Y.move (v:=.int .i64 i30) s20_2)<|RQ.y rfl (Y.assign (v:=.int .i64 i30) rfl)<|RQ.nil<|then_n<|wp_rl rfl<|RL.y rfl (Y.move (v:=uxs29) s3_2)<|RL.y rfl (Y.move (v:=.int .i64 i5) s4_2)<|RL.y rfl (Y.move (v:=.int .i64 i30) rfl)<|RL.y rfl (Y.build2 (cells:=#[.int .i64 i5,.int .i64 i30]) rfl rfl (by kernel_rfl) (by kernel_rfl)) ?_
  refine RL.bslice (e:=61) (cells:=#[.int .i64 i5,.int .i64 i30]) rfl (pm1 rfl) (by kernel_rfl) (fun w33 B34 hb35 szw33=>?_)
  have ZB34:w.heap.size≤w31.heap.size:=T.size
  have Do36_oxs29:=Dj.new (v:=.slice (some ⟨w31.heap.size,0,none⟩) 1 1) litGe (OwF.hi Gxs29)
  have Gxs29:=OwF.below Gxs29 hb35
  have T:=Tt T hb35
  have G37:=OwF.lit (enc:=encPort) (sz:=2) (xs:=[(⟨i5,i30⟩:DPort)]) B34 ZB34 rfl rfl rfl rfl
  obtain ⟨_,m39,hm⟩:=bnd hm
  have hk40:=mustP_some m39
  refine RL.append fPort app_impl_Port rfl rfl rfl Gxs29 (OwF.arg fPort G37) T.size hk40 (fun v41 w42 G43 hgr44 hbl45 hnb46=>?_)
  have szw42:=hbl45.size
  have T:=T.trans hbl45
  refine RL.y rfl (Y.assign (v:=v41) rfl)<|RL.nil ?_
  refine blk_n (then_n ?_)
  refine wp_rs rfl<|RQ.y rfl (Y.binI s20_2 rfl (binI_add (m:=i30) (by omega)))<|RQ.y rfl (Y.move (v:=.int .i64 (i30+1)) rfl)<|RQ.nil ?_
  exact (then_n ⟨g,_,Nat.lt_succ_self _,rfl,⟨(xs29 ++ [(⟨i5,i30⟩:DPort)]),(i30+1),(v41),s4_2,s10_2,s11_2,s12_2,s19_2,rfl,G43,rfl,(by omega),T,(by rw [← hrec2]; exact hm)⟩⟩)
end
section
open Go.RowKit
set_option maxRecDepth 100000
def m_slices_IndexFunc_impl_Port_impl_Port_A1:Option Int:=
  some (-1)
def m_slices_IndexFunc_impl_Port_impl_Port_B1 (d0:List DPort) (d1:DPort→Option Bool) (rec1:Int→Option Int) (K1:Option Int) (i2:Int):Option Int:=
  (bif (decide (i2 < (d0.length:Int))) then ((getI d0 i2).bind fun x5=>((d1 x5).bind fun y14=>(bif y14 then some i2 else (rec1 (i2+1))))) else (K1))
def m_slices_IndexFunc_impl_Port_impl_Port_L1 (d0:List DPort) (d1:DPort→Option Bool) (K1:Option Int):Nat→Int→Option Int
  |0,_=>none
  |g+1,i2=>m_slices_IndexFunc_impl_Port_impl_Port_B1 d0 d1 (m_slices_IndexFunc_impl_Port_impl_Port_L1 d0 d1 K1 g) K1 i2
def m_slices_IndexFunc_impl_Port_impl_Port (d0:List DPort) (d1:DPort→Option Bool):Option Int:=
  (m_slices_IndexFunc_impl_Port_impl_Port_L1 d0 d1 m_slices_IndexFunc_impl_Port_impl_Port_A1 (d0.length+1) 0)
set_option maxHeartbeats 2000000 in
theorem c_m_slices_IndexFunc_impl_Port_impl_Port (d0:List DPort) (d1:DPort→Option Bool) (r:Int) (hm:m_slices_IndexFunc_impl_Port_impl_Port d0 d1=some r) (v0:Value) (gf1:FuncId) (caps1:Array Value) (w:World) (hv0:Sl portRd 2 w v0 d0) (hgo1:isGo Tryz.prog gf1=true) (hf1 :∀(x0:DPort) (b:Bool),d1 x0=some b→∀w1,Below w.heap.size w w1→Calls Tryz.prog gf1 (#[.agg #[.int .i64 x0.agent,.int .i64 x0.slot]] ++ caps1) w1 fun e w2=>e=.returned (.bool b)∧Below w1.heap.size w1 w2) :
    Calls Tryz.prog 67 #[v0,.func (.func gf1) #[] caps1] w fun e w'=>e=.returned (.int .i64 r)∧Below w.heap.size w w':=by
  obtain ⟨Aa0,na0,ca0,rfl,ha0,ra0⟩:=hv0
  have ea0:=ha0.len; subst ea0
  have qa0:=len_le ra0
  have T:=Below.refl w.heap.size w
  unfold m_slices_IndexFunc_impl_Port_impl_Port at hm
  refine enter 19 Tryz.func67 rfl rfl rfl ?_
  intro f hf
  have s0:f 0=.slice Aa0 d0.length ca0:=hf 0 _ rfl
  have s1:f 1=.func (.func gf1) #[] caps1:=hf 1 _ rfl
  refine wp_seq<|wp_rs rfl<|RQ.y rfl (Y.assign (v:=.int .i64 0) rfl)<|RQ.nil<|then_n<|wp_seq<|wp_seq<|wp_rs rfl<|RQ.y rfl (Y.move (v:=.slice Aa0 d0.length ca0) s0)<|RQ.y rfl (Y.len (by kernel_rfl) rfl)<|RQ.y rfl (Y.move (v:=.int .i64 0) rfl)<|RQ.nil<|then_n<|wp_block ?_
  obtain ⟨K1,hK1,hm⟩ :∃K,K=m_slices_IndexFunc_impl_Port_impl_Port_A1∧m_slices_IndexFunc_impl_Port_impl_Port_L1 d0 d1 K (d0.length+1) 0=some r:=⟨_,rfl,hm⟩
  refine wp_loopX (fun g f w'=>∃(i2:Int),f 0=.slice Aa0 d0.length ca0∧f 1=.func (.func gf1) #[] caps1∧f 7=.int .i64 (d0.length:Int)∧f 8=.int .i64 i2∧0≤i2∧Below w.heap.size w w'∧m_slices_IndexFunc_impl_Port_impl_Port_L1 d0 d1 K1 g i2=some r) 0 (fun f w'=>Below w.heap.size w w'∧m_slices_IndexFunc_impl_Port_impl_Port_A1  = some r) (d0.length+1) ⟨0,s0,s1,rfl,rfl,(by omega),T,hm⟩ ?_ ?_
  ·rintro f w1 ⟨T,hm⟩
   unfold m_slices_IndexFunc_impl_Port_impl_Port_A1 at hm
   refine blk_hit (then_n ?_)
   refine wp_seq<|wp_rs rfl<|RQ.y rfl (Y.assign (v:=.int .i64 (-1)) rfl)<|RQ.nil<|then_n<|wp_ret ?_
   obtain rfl:=sj hm
   exact (ret1 rfl rfl rfl ⟨rfl,T⟩)
  rintro g f w3 ⟨i2,s0_1,s1_1,s7_1,s8_1,nn8_1,T,hm⟩
  rcases g with _|g
  ·simp only [m_slices_IndexFunc_impl_Port_impl_Port_L1] at hm; cases hm
  obtain ⟨rec1,hrec1,hm⟩ :∃z,z=m_slices_IndexFunc_impl_Port_impl_Port_L1 d0 d1 K1 g∧m_slices_IndexFunc_impl_Port_impl_Port_B1 d0 d1 z K1 i2=some r:=⟨_,rfl,hm⟩
  unfold m_slices_IndexFunc_impl_Port_impl_Port_B1 at hm
  refine wp_seq<|wp_rs rfl<|RQ.y rfl (Y.binI (v:=.bool (decide (i2 < (d0.length:Int)))) s8_1 s7_1 rfl)<|RQ.nil<|then_n<|wp_seq ?_
  rcases bcases (decide (i2 < (d0.length:Int))) with c4|c4
  ·replace hm:=cF c4 hm
   have pc4:=of_decide_eq_false c4
   refine cond_f rfl (vb rfl c4)<|wp_exit ?_
   exact (then_x (then_x (hit_x ⟨_,rfl,⟨T,(by rw [hK1] at hm; exact hm)⟩⟩)))
  replace hm:=cT c4 hm
  have pc4:=of_decide_eq_true c4
  refine cond_t rfl (vb rfl c4)<|wp_skip<|then_n<|wp_seq<|wp_block<|wp_seq<|wp_rs rfl<|RQ.y rfl (Y.move (v:=.int .i64 i2) s8_1)<|RQ.y rfl (Y.assign (v:=.int .i64 i2) rfl)<|RQ.nil<|then_n<|wp_seq<|wp_rb rfl<|RQ.y rfl (Y.move (v:=.func (.func gf1) #[] caps1) s1_1)<|RQ.y rfl (Y.move (v:=.slice Aa0 d0.length ca0) s0_1)<|RQ.y rfl (Y.move (v:=.int .i64 i2) rfl) ?_
  obtain ⟨x5,hx8,hm⟩:=bnd hm
  obtain ⟨k6,hk9,hl10,hx8⟩:=getI_some hx8
  obtain ⟨b12,o13,rfl,hbb12⟩:=ha0.addr (by omega)
  obtain ⟨cs7,hRcs7,hc11⟩:=ha0.el hx8
  have hScs7:=hRcs7
  obtain rfl:=hRcs7
  refine RQ.y rfl (Y.indexAddr (m:=k6) (sz:=2) rfl rfl hk9 hl10 (by kernel_rfl))<|RQ.y rfl (Y.loadN (cs:=[.int .i64 x5.agent,.int .i64 x5.slot]) rfl (by kernel_rfl) (cells2 (beC (cellT T (hc11 0 _ rfl))) (beC (cellT T (hc11 1 _ rfl))))) ?_
  obtain ⟨y14,e15,hm⟩:=bnd hm
  refine RQ.callV rfl rfl (am1 rfl) hgo1 (v:=.bool y14) (bel (K:=fun _=>True) fun w' hb'=>hf1 x5 y14 e15 w' (Tt T hb'))<|RQ.nil ?_
  intro w16 hb17
  have szw16:=hb17.size
  have T:=Tt T hb17
  refine then_n ?_
  rcases bcases y14 with c18|c18
  ·replace hm:=cF c18 hm
   refine cond_f rfl (vb rfl c18)<|wp_skip ?_
   refine blk_n (then_n ?_)
   refine wp_rs rfl<|RQ.y rfl (Y.binI s8_1 rfl (binI_add (m:=i2) (by omega)))<|RQ.y rfl (Y.move (v:=.int .i64 (i2+1)) rfl)<|RQ.nil ?_
   exact (then_n ⟨g,_,Nat.lt_succ_self _,rfl,⟨(i2+1),s0_1,s1_1,s7_1,rfl,(by omega),T,(by rw [← hrec1]; exact hm)⟩⟩)
  replace hm:=cT c18 hm
  refine cond_t rfl (vb rfl c18)<|wp_seq<|wp_rs rfl<|RQ.y rfl (Y.move (v:=.int .i64 i2) rfl)<|RQ.y rfl (Y.assign (v:=.int .i64 i2) rfl)<|RQ.nil<|then_n<|wp_ret ?_
  obtain rfl:=sj hm
  exact (blk_r (then_r (then_r (hit_r (blk_r (then_r (ret1 rfl rfl rfl ⟨rfl,T⟩)))))))
def m_slices_ContainsFunc_impl_Port_impl_Port (d0:List DPort) (d1:DPort→Option Bool):Option Bool:=
  ((m_slices_IndexFunc_impl_Port_impl_Port d0 d1).bind fun y1=>some (decide (y1 ≥ 0)))
set_option maxHeartbeats 2000000 in
theorem c_m_slices_ContainsFunc_impl_Port_impl_Port (d0:List DPort) (d1:DPort→Option Bool) (r:Bool) (hm:m_slices_ContainsFunc_impl_Port_impl_Port d0 d1=some r) (v0:Value) (gf1:FuncId) (caps1:Array Value) (w:World) (hv0:Sl portRd 2 w v0 d0) (hgo1:isGo Tryz.prog gf1=true) (hf1 :∀(x0:DPort) (b:Bool),d1 x0=some b→∀w1,Below w.heap.size w w1→Calls Tryz.prog gf1 (#[.agg #[.int .i64 x0.agent,.int .i64 x0.slot]] ++ caps1) w1 fun e w2=>e=.returned (.bool b)∧Below w1.heap.size w1 w2) :
    Calls Tryz.prog 33 #[v0,.func (.func gf1) #[] caps1] w fun e w'=>e=.returned (.bool r)∧Below w.heap.size w w':=by
  obtain ⟨Aa0,na0,ca0,rfl,ha0,ra0⟩:=hv0
  have ea0:=ha0.len; subst ea0
  have qa0:=len_le ra0
  have T:=Below.refl w.heap.size w
  unfold m_slices_ContainsFunc_impl_Port_impl_Port at hm
  refine enter 9 Tryz.func33 rfl rfl rfl ?_
  intro f hf
  have s0:f 0=.slice Aa0 d0.length ca0:=hf 0 _ rfl
  have s1:f 1=.func (.func gf1) #[] caps1:=hf 1 _ rfl
  refine wp_seq<|wp_rs rfl<|RQ.y rfl (Y.assign (v:=.bool false) rfl)<|RQ.nil<|then_n<|wp_seq<|wp_rb rfl<|RQ.y rfl (Y.move (v:=.slice Aa0 d0.length ca0) s0)<|RQ.y rfl (Y.move (v:=.func (.func gf1) #[] caps1) s1) ?_
  obtain ⟨y1,e2,hm⟩:=bnd hm
  refine RQ.call rfl (am2 rfl rfl) (by kernel_rfl) (v:=.int .i64 y1) (bel (K:=fun _=>True) fun w' hb'=>(c_m_slices_IndexFunc_impl_Port_impl_Port d0 d1 _ e2 _ _ _ w' (slArg portRd_ok ha0 ra0 (Tt T hb')) hgo1 (fun x0 b hx w1 hb1=>hf1 x0 b hx w1 (Tt (Tt T hb') hb1))))<|RQ.y rfl (Y.binI (v:=.bool (decide (y1 ≥ 0))) rfl rfl rfl)<|RQ.y rfl (Y.assign (v:=.bool (decide (y1 ≥ 0))) rfl)<|RQ.nil ?_
  intro w3 hb4
  have szw3:=hb4.size
  have T:=Tt T hb4
  refine then_n<|wp_ret ?_
  obtain rfl:=sj hm
  exact (ret1 rfl rfl rfl ⟨rfl,T⟩)
def m_slices_IndexFunc_int64_int64_A1:Option Int:=
  some (-1)
def m_slices_IndexFunc_int64_int64_B1 (d0:List Int) (d1:Int→Option Bool) (rec1:Int→Option Int) (K1:Option Int) (i2:Int):Option Int:=
  (bif (decide (i2 < (d0.length:Int))) then ((getI d0 i2).bind fun x5=>((d1 x5).bind fun y14=>(bif y14 then some i2 else (rec1 (i2+1))))) else (K1))
def m_slices_IndexFunc_int64_int64_L1 (d0:List Int) (d1:Int→Option Bool) (K1:Option Int):Nat→Int→Option Int
  |0,_=>none
  |g+1,i2=>m_slices_IndexFunc_int64_int64_B1 d0 d1 (m_slices_IndexFunc_int64_int64_L1 d0 d1 K1 g) K1 i2
def m_slices_IndexFunc_int64_int64 (d0:List Int) (d1:Int→Option Bool):Option Int:=
  (m_slices_IndexFunc_int64_int64_L1 d0 d1 m_slices_IndexFunc_int64_int64_A1 (d0.length+1) 0)
set_option maxHeartbeats 2000000 in
theorem c_m_slices_IndexFunc_int64_int64 (d0:List Int) (d1:Int→Option Bool) (r:Int) (hm:m_slices_IndexFunc_int64_int64 d0 d1=some r) (v0:Value) (gf1:FuncId) (caps1:Array Value) (w:World) (hv0:Sl intRd 1 w v0 d0) (hgo1:isGo Tryz.prog gf1=true) (hf1 :∀(x0:Int) (b:Bool),d1 x0=some b→∀w1,Below w.heap.size w w1→Calls Tryz.prog gf1 (#[.int .i64 x0] ++ caps1) w1 fun e w2=>e=.returned (.bool b)∧Below w1.heap.size w1 w2) :
    Calls Tryz.prog 117 #[v0,.func (.func gf1) #[] caps1] w fun e w'=>e=.returned (.int .i64 r)∧Below w.heap.size w w':=by
  obtain ⟨Aa0,na0,ca0,rfl,ha0,ra0⟩:=hv0
  have ea0:=ha0.len; subst ea0
  have qa0:=len_le ra0
  have T:=Below.refl w.heap.size w
  unfold m_slices_IndexFunc_int64_int64 at hm
  refine enter 19 Tryz.func117 rfl rfl rfl ?_
  intro f hf
  have s0:f 0=.slice Aa0 d0.length ca0:=hf 0 _ rfl
  have s1:f 1=.func (.func gf1) #[] caps1:=hf 1 _ rfl
  refine wp_seq<|wp_rs rfl<|RQ.y rfl (Y.assign (v:=.int .i64 0) rfl)<|RQ.nil<|then_n<|wp_seq<|wp_seq<|wp_rs rfl<|RQ.y rfl (Y.move (v:=.slice Aa0 d0.length ca0) s0)<|RQ.y rfl (Y.len (by kernel_rfl) rfl)<|RQ.y rfl (Y.move (v:=.int .i64 0) rfl)<|RQ.nil<|then_n<|wp_block ?_
  obtain ⟨K1,hK1,hm⟩ :∃K,K=m_slices_IndexFunc_int64_int64_A1∧m_slices_IndexFunc_int64_int64_L1 d0 d1 K (d0.length+1) 0=some r:=⟨_,rfl,hm⟩
  refine wp_loopX (fun g f w'=>∃(i2:Int),f 0=.slice Aa0 d0.length ca0∧f 1=.func (.func gf1) #[] caps1∧f 7=.int .i64 (d0.length:Int)∧f 8=.int .i64 i2∧0≤i2∧Below w.heap.size w w'∧m_slices_IndexFunc_int64_int64_L1 d0 d1 K1 g i2=some r) 0 (fun f w'=>Below w.heap.size w w'∧m_slices_IndexFunc_int64_int64_A1  = some r) (d0.length+1) ⟨0,s0,s1,rfl,rfl,(by omega),T,hm⟩ ?_ ?_
  ·rintro f w1 ⟨T,hm⟩
   unfold m_slices_IndexFunc_int64_int64_A1 at hm
   refine blk_hit (then_n ?_)
   refine wp_seq<|wp_rs rfl<|RQ.y rfl (Y.assign (v:=.int .i64 (-1)) rfl)<|RQ.nil<|then_n<|wp_ret ?_
   obtain rfl:=sj hm
   exact (ret1 rfl rfl rfl ⟨rfl,T⟩)
  rintro g f w3 ⟨i2,s0_1,s1_1,s7_1,s8_1,nn8_1,T,hm⟩
  rcases g with _|g
  ·simp only [m_slices_IndexFunc_int64_int64_L1] at hm; cases hm
  obtain ⟨rec1,hrec1,hm⟩ :∃z,z=m_slices_IndexFunc_int64_int64_L1 d0 d1 K1 g∧m_slices_IndexFunc_int64_int64_B1 d0 d1 z K1 i2=some r:=⟨_,rfl,hm⟩
  unfold m_slices_IndexFunc_int64_int64_B1 at hm
  refine wp_seq<|wp_rs rfl<|RQ.y rfl (Y.binI (v:=.bool (decide (i2 < (d0.length:Int)))) s8_1 s7_1 rfl)<|RQ.nil<|then_n<|wp_seq ?_
  rcases bcases (decide (i2 < (d0.length:Int))) with c4|c4
  ·replace hm:=cF c4 hm
   have pc4:=of_decide_eq_false c4
   refine cond_f rfl (vb rfl c4)<|wp_exit ?_
   exact (then_x (then_x (hit_x ⟨_,rfl,⟨T,(by rw [hK1] at hm; exact hm)⟩⟩)))
  replace hm:=cT c4 hm
  have pc4:=of_decide_eq_true c4
  refine cond_t rfl (vb rfl c4)<|wp_skip<|then_n<|wp_seq<|wp_block<|wp_seq<|wp_rs rfl<|RQ.y rfl (Y.move (v:=.int .i64 i2) s8_1)<|RQ.y rfl (Y.assign (v:=.int .i64 i2) rfl)<|RQ.nil<|then_n<|wp_seq<|wp_rb rfl<|RQ.y rfl (Y.move (v:=.func (.func gf1) #[] caps1) s1_1)<|RQ.y rfl (Y.move (v:=.slice Aa0 d0.length ca0) s0_1)<|RQ.y rfl (Y.move (v:=.int .i64 i2) rfl) ?_
  obtain ⟨x5,hx8,hm⟩:=bnd hm
  obtain ⟨k6,hk9,hl10,hx8⟩:=getI_some hx8
  obtain ⟨b12,o13,rfl,hbb12⟩:=ha0.addr (by omega)
  obtain ⟨cs7,hRcs7,hc11⟩:=ha0.el hx8
  have hScs7:=hRcs7
  obtain rfl:=hRcs7
  refine RQ.y rfl (Y.indexAddr (m:=k6) (sz:=1) rfl rfl hk9 hl10 (by kernel_rfl))<|RQ.y rfl (Y.load (v:=.int .i64 x5) rfl (by kernel_rfl) (beC (cellT T (hc11 0 _ rfl)))) ?_
  obtain ⟨y14,e15,hm⟩:=bnd hm
  refine RQ.callV rfl rfl (am1 rfl) hgo1 (v:=.bool y14) (bel (K:=fun _=>True) fun w' hb'=>hf1 x5 y14 e15 w' (Tt T hb'))<|RQ.nil ?_
  intro w16 hb17
  have szw16:=hb17.size
  have T:=Tt T hb17
  refine then_n ?_
  rcases bcases y14 with c18|c18
  ·replace hm:=cF c18 hm
   refine cond_f rfl (vb rfl c18)<|wp_skip ?_
   refine blk_n (then_n ?_)
   refine wp_rs rfl<|RQ.y rfl (Y.binI s8_1 rfl (binI_add (m:=i2) (by omega)))<|RQ.y rfl (Y.move (v:=.int .i64 (i2+1)) rfl)<|RQ.nil ?_
   exact (then_n ⟨g,_,Nat.lt_succ_self _,rfl,⟨(i2+1),s0_1,s1_1,s7_1,rfl,(by omega),T,(by rw [← hrec1]; exact hm)⟩⟩)
  replace hm:=cT c18 hm
  refine cond_t rfl (vb rfl c18)<|wp_seq<|wp_rs rfl<|RQ.y rfl (Y.move (v:=.int .i64 i2) rfl)<|RQ.y rfl (Y.assign (v:=.int .i64 i2) rfl)<|RQ.nil<|then_n<|wp_ret ?_
  obtain rfl:=sj hm
  exact (blk_r (then_r (then_r (hit_r (blk_r (then_r (ret1 rfl rfl rfl ⟨rfl,T⟩)))))))
def m_slices_ContainsFunc_int64_int64 (d0:List Int) (d1:Int→Option Bool):Option Bool:=
  ((m_slices_IndexFunc_int64_int64 d0 d1).bind fun y1=>some (decide (y1 ≥ 0)))
set_option maxHeartbeats 2000000 in
theorem c_m_slices_ContainsFunc_int64_int64 (d0:List Int) (d1:Int→Option Bool) (r:Bool) (hm:m_slices_ContainsFunc_int64_int64 d0 d1=some r) (v0:Value) (gf1:FuncId) (caps1:Array Value) (w:World) (hv0:Sl intRd 1 w v0 d0) (hgo1:isGo Tryz.prog gf1=true) (hf1 :∀(x0:Int) (b:Bool),d1 x0=some b→∀w1,Below w.heap.size w w1→Calls Tryz.prog gf1 (#[.int .i64 x0] ++ caps1) w1 fun e w2=>e=.returned (.bool b)∧Below w1.heap.size w1 w2) :
    Calls Tryz.prog 99 #[v0,.func (.func gf1) #[] caps1] w fun e w'=>e=.returned (.bool r)∧Below w.heap.size w w':=by
  obtain ⟨Aa0,na0,ca0,rfl,ha0,ra0⟩:=hv0
  have ea0:=ha0.len; subst ea0
  have qa0:=len_le ra0
  have T:=Below.refl w.heap.size w
  unfold m_slices_ContainsFunc_int64_int64 at hm
  refine enter 9 Tryz.func99 rfl rfl rfl ?_
  intro f hf
  have s0:f 0=.slice Aa0 d0.length ca0:=hf 0 _ rfl
  have s1:f 1=.func (.func gf1) #[] caps1:=hf 1 _ rfl
  refine wp_seq<|wp_rs rfl<|RQ.y rfl (Y.assign (v:=.bool false) rfl)<|RQ.nil<|then_n<|wp_seq<|wp_rb rfl<|RQ.y rfl (Y.move (v:=.slice Aa0 d0.length ca0) s0)<|RQ.y rfl (Y.move (v:=.func (.func gf1) #[] caps1) s1) ?_
  obtain ⟨y1,e2,hm⟩:=bnd hm
  refine RQ.call rfl (am2 rfl rfl) (by kernel_rfl) (v:=.int .i64 y1) (bel (K:=fun _=>True) fun w' hb'=>(c_m_slices_IndexFunc_int64_int64 d0 d1 _ e2 _ _ _ w' (slArg intRd_ok ha0 ra0 (Tt T hb')) hgo1 (fun x0 b hx w1 hb1=>hf1 x0 b hx w1 (Tt (Tt T hb') hb1))))<|RQ.y rfl (Y.binI (v:=.bool (decide (y1 ≥ 0))) rfl rfl rfl)<|RQ.y rfl (Y.assign (v:=.bool (decide (y1 ≥ 0))) rfl)<|RQ.nil ?_
  intro w3 hb4
  have szw3:=hb4.size
  have T:=Tt T hb4
  refine then_n<|wp_ret ?_
  obtain rfl:=sj hm
  exact (ret1 rfl rfl rfl ⟨rfl,T⟩)
def m_impl_ValidNet_1 (d0:DPort) (d1:DNet):Option Bool:=
  ((m_impl_Net_peer d1 d0).bind fun y6=>(bif (y6.agent==d0.agent && y6.slot==d0.slot) then some true else ((m_impl_hasPort d1.agents y6).bind fun y18=>(bif y18 then ((m_impl_Net_peer d1 y6).bind fun y23=>some (!(y23.agent==d0.agent && y23.slot==d0.slot))) else some true))))
set_option maxHeartbeats 2000000 in
theorem c_m_impl_ValidNet_1 (d0:DPort) (d1:DNet) (r:Bool) (hm:m_impl_ValidNet_1 d0 d1=some r) (v1:Value) (w:World) (hv1:Pt netRd w v1 d1) :
    Calls Tryz.prog 35 #[.agg #[.int .i64 d0.agent,.int .i64 d0.slot],v1] w fun e w'=>e=.returned (.bool r)∧Below w.heap.size w w':=by
  obtain ⟨ba1,oa1,csa1,rfl,hba1,hRa1,hca1⟩:=hv1
  have hSa1:=hRa1
  obtain ⟨A1,n1,c1,rfl,⟨h1,r1⟩⟩:=hRa1
  have e1:=h1.len; subst e1
  have q1:=len_le r1
  have T:=Below.refl w.heap.size w
  unfold m_impl_ValidNet_1 at hm
  refine enter 23 Tryz.func35 rfl rfl rfl ?_
  intro f hf
  have s0:f 0=.agg #[.int .i64 d0.agent,.int .i64 d0.slot]:=hf 0 _ rfl
  have s1:f 1=.pointer (some ⟨ba1,oa1,none⟩):=hf 1 _ rfl
  refine wp_seq<|wp_rl rfl ?_
  refine RL.box rfl s0 (fun w2 B3 hb4 szw2=>?_)
  replace B3:Blk w2 w.heap.size 61 #[.int .i64 d0.agent,.int .i64 d0.slot]:=B3
  have GB3:w.heap.size≤w.heap.size:=T.size
  have T:=Tt T hb4
  refine RL.y rfl (Y.assign (v:=.bool false) rfl)<|RL.nil<|then_n<|wp_seq<|wp_rl rfl<|RL.y rfl (Y.loadN (cs:=[.int .i64 d0.agent,.int .i64 d0.slot]) rfl (by kernel_rfl) (cells2 (eqC (blkCell B3 (i:=0) rfl)) (eqC (blkCell B3 (i:=1) rfl)))) ?_
  obtain ⟨y6,e7,hm⟩:=bnd hm
  refine RL.call rfl (am2 s1 rfl) (by kernel_rfl) ((c_m_impl_Net_peer d1 d0 _ e7 _ _ (ptArg netRd_ok hba1 hSa1 hca1 T)).mono ?_)
  rintro _ w8 ⟨rfl,hb9⟩
  refine ⟨_,rfl,?_⟩
  have szw8:=hb9.size
  have B3:=blkT B3 hb9
  have T:=Tt T hb9
  refine RL.alloc (z:=.agg #[.int .i64 0,.int .i64 0]) rfl (by kernel_rfl) (fun w10 B11 hb12 szw10=>?_)
  replace B11:Blk w10 w8.heap.size 61 #[.int .i64 0,.int .i64 0]:=B11
  have GB11:w.heap.size≤w8.heap.size:=T.size
  have Eob13_ob5:=Nat.ne_of_lt B3.lt
  have B3:=blkT B3 hb12
  have T:=Tt T hb12
  refine RL.store (v:=.agg #[.int .i64 y6.agent,.int .i64 y6.slot]) (cs':=#[.int .i64 y6.agent,.int .i64 y6.slot]) rfl rfl rfl B11 (by kernel_rfl) (by rfl) (by rfl) (by rfl) (fun w14 B15 ho16=>?_)
  have szw14:=ho16.size
  have B3:=B3.only_ ho16 (by intro hin; simp at hin; exact Eob13_ob5 hin)
  have T:=T.trans (ho16.below (by simp; omega))
  refine RL.nil<|then_n<|wp_seq<|wp_rbd (by kernel_rfl) (by kernel_rfl)<|RQ.y rfl (Y.loadN (cs:=[.int .i64 y6.agent,.int .i64 y6.slot]) rfl (by kernel_rfl) (cells2 (beC (blkCell B15 (i:=0) rfl)) (beC (blkCell B15 (i:=1) rfl))))<|RQ.y rfl (Y.loadN (cs:=[.int .i64 d0.agent,.int .i64 d0.slot]) rfl (by kernel_rfl) (cells2 (beC (blkCell B3 (i:=0) rfl)) (beC (blkCell B3 (i:=1) rfl))))<|RQ.y rfl (Y.eqS (b:=(y6.agent==d0.agent && y6.slot==d0.slot)) rfl rfl (eqPort_run _ _ _ _) (eqGuardPort_run _ _ _ _ _))<|RQ.y rfl (Y.move (v:=.bool (y6.agent==d0.agent && y6.slot==d0.slot)) rfl) ?_
  rcases bcases (y6.agent==d0.agent && y6.slot==d0.slot) with c17|c17
  ·replace hm:=cF c17 hm
   refine RQ.y (wantT (dj:=10) rfl (vb rfl c17)) (Y.fieldAddr (off:=0) s1 (by kernel_rfl))<|RQ.y (wantT (dj:=10) rfl (vb rfl c17)) (Y.load (v:=.slice A1 d1.agents.length c1) rfl (by kernel_rfl) (beC (cellT T (hca1 0 _ rfl))))<|RQ.y (wantT (dj:=10) rfl (vb rfl c17)) (Y.loadN (cs:=[.int .i64 y6.agent,.int .i64 y6.slot]) rfl (by kernel_rfl) (cells2 (beC (blkCell B15 (i:=0) rfl)) (beC (blkCell B15 (i:=1) rfl)))) ?_
   obtain ⟨y18,e19,hm⟩:=bnd hm
   refine RQ.call (wantT (dj:=10) rfl (vb rfl c17)) (am2 rfl rfl) (by kernel_rfl) (v:=.bool y18) (bel (K:=fun _=>True) fun w' hb'=>(c_m_impl_hasPort d1.agents y6 _ e19 _ w' (slArg agentRd_ok h1 r1 (Tt T hb'))))<|RQ.y (wantT (dj:=10) rfl (vb rfl c17)) (Y.not (b':=(!y18)) rfl rfl)<|RQ.y rfl (Y.pick (b:=false) (v:=.bool (!y18)) (vb rfl c17) rfl)<|RQ.y rfl (Y.move (v:=.bool (!y18)) rfl) ?_
   rcases bcases y18 with c20|c20
   ·replace hm:=cF c20 hm
    iterate 4 refine RQ.skip (wantN (dj:=17) rfl (vbn rfl c20 rfl) rfl) ?_
    refine RQ.y rfl (Y.pick (b:=true) (v:=.bool true) (vbn rfl c20 rfl) rfl)<|RQ.y rfl (Y.assign (v:=.bool true) rfl)<|RQ.nil ?_
    intro w21 hb22
    have szw21:=hb22.size
    have T:=Tt T hb22
    refine then_n<|wp_ret ?_
    obtain rfl:=sj hm
    exact (ret1 rfl rfl rfl ⟨rfl,T⟩)
   replace hm:=cT c20 hm
   refine RQ.y (wantT (dj:=17) rfl (vbn rfl c20 rfl)) (Y.loadN (cs:=[.int .i64 y6.agent,.int .i64 y6.slot]) rfl (by kernel_rfl) (cells2 (beC (blkCell B15 (i:=0) rfl)) (beC (blkCell B15 (i:=1) rfl)))) ?_
   obtain ⟨y23,e24,hm⟩:=bnd hm
   refine RQ.call (wantT (dj:=17) rfl (vbn rfl c20 rfl)) (am2 s1 rfl) (by kernel_rfl) (v:=.agg #[.int .i64 y23.agent,.int .i64 y23.slot]) (bel (K:=fun _=>True) fun w' hb'=>(c_m_impl_Net_peer d1 y6 _ e24 _ w' (ptArg netRd_ok hba1 hSa1 hca1 (Tt T hb'))))<|RQ.y (wantT (dj:=17) rfl (vbn rfl c20 rfl)) (Y.loadN (cs:=[.int .i64 d0.agent,.int .i64 d0.slot]) rfl (by kernel_rfl) (cells2 (beC (blkCell B3 (i:=0) rfl)) (beC (blkCell B3 (i:=1) rfl))))<|RQ.y (wantT (dj:=17) rfl (vbn rfl c20 rfl)) (Y.neS (b:=(y23.agent==d0.agent && y23.slot==d0.slot)) rfl rfl (eqPort_run _ _ _ _) (eqGuardPort_run _ _ _ _ _))<|RQ.y rfl (Y.pick (b:=false) (v:=.bool (!(y23.agent==d0.agent && y23.slot==d0.slot))) (vbn rfl c20 rfl) rfl)<|RQ.y rfl (Y.assign (v:=.bool (!(y23.agent==d0.agent && y23.slot==d0.slot))) rfl)<|RQ.nil ?_
   intro w25 hb26
   have szw25:=hb26.size
   have T:=Tt T hb26
   refine then_n<|wp_ret ?_
   obtain rfl:=sj hm
   exact (ret1 rfl rfl rfl ⟨rfl,T⟩)
  replace hm:=cT c17 hm
  iterate 5 refine RQ.skip (wantN (dj:=10) rfl (vb rfl c17) rfl) ?_
  refine RQ.y rfl (Y.pick (b:=true) (v:=.bool true) (vb rfl c17) rfl)<|RQ.y rfl (Y.move (v:=.bool true) rfl) ?_
  iterate 4 refine RQ.skip (wantN (dj:=17) rfl rfl rfl) ?_
  refine RQ.y rfl (Y.pick (b:=true) (v:=.bool true) rfl rfl)<|RQ.y rfl (Y.assign (v:=.bool true) rfl)<|RQ.nil ?_
  intro w27 hb28
  have szw27:=hb28.size
  have T:=Tt T hb28
  refine then_n<|wp_ret ?_
  obtain rfl:=sj hm
  exact (ret1 rfl rfl rfl ⟨rfl,T⟩)
def m_impl_wellFormed (d0:DAgent):Option Bool:=
  (bif ((d0.ports.length:Int)==0) then some false else ((m_impl_fieldsOf d0.kind (d0.ports.length:Int)).bind fun y8=>(bif ((portsOf d0.kind y8) != (d0.ports.length:Int)) then some false else (bif (allowed d0.kind d0.level) then ((m_slices_ContainsFunc_int64_int64 d0.data (fun x0=>m_impl_wellFormed_1 x0)).bind fun y16=>(bif (d0.kind==6) then ((m_impl_isInt d0.value).bind fun y69=>(bif y69 then some ((d0.data.length:Int)==0) else some false)) else (bif (d0.kind==7) then ((m_impl_isOperator d0.value).bind fun y64=>(bif y64 then some ((d0.data.length:Int)==0) else some false)) else (bif (d0.kind==8) then ((m_impl_isOperator d0.value).bind fun y43=>(bif y43 then (bif ((d0.data.length:Int)==1) then ((getI d0.data 0).bind fun x51=>((m_impl_isInt x51).bind fun y60=>some y60)) else some false) else some false)) else (bif (d0.kind==9) then (bif (decide (d0.value ≥ 0)) then (bif (decide (d0.value < 4)) then some ((d0.data.length:Int)==0) else some false) else some false) else (bif (d0.kind==10) then (bif (decide ((d0.data.length:Int) ≥ 1)) then (bif (decide ((d0.data.length:Int)≤4)) then (bif (d0.value==0) then some (!y16) else some false) else (bif (d0.value==0) then some false else some false)) else (bif (d0.value==0) then some false else some false)) else (bif (d0.kind==11) then (bif ((d0.data.length:Int)==2) then (bif (d0.value==0) then some (!y16) else some false) else (bif (d0.value==0) then some false else some false)) else (bif (d0.kind==12) then ((m_impl_isDefIndex d0.value).bind fun y28=>(bif y28 then some ((d0.data.length:Int)==0) else some false)) else (bif (d0.value==0) then some ((d0.data.length:Int)==0) else some false))))))))) else some false))))
set_option maxHeartbeats 2000000 in
theorem c_m_impl_wellFormed (d0:DAgent) (r:Bool) (hm:m_impl_wellFormed d0=some r) (v0:Value) (w:World) (hv0:St agentRd w v0 d0) :
    Calls Tryz.prog 66 #[v0] w fun e w'=>e=.returned (.bool r)∧Below w.heap.size w w':=by
  obtain ⟨csa0,rfl,⟨A1,n1,c1,A2,n2,c2,rfl,⟨h1,r1⟩,⟨h2,r2⟩⟩⟩:=hv0
  have e1:=h1.len; subst e1
  have q1:=len_le r1
  have e2:=h2.len; subst e2
  have q2:=len_le r2
  have T:=Below.refl w.heap.size w
  unfold m_impl_wellFormed at hm
  refine enter 117 Tryz.func66 rfl rfl rfl ?_
  intro f hf
  have s0:f 0=.agg #[.int .i64 d0.kind,.int .i64 d0.level,.int .i64 d0.value,.slice A1 d0.data.length c1,.slice A2 d0.ports.length c2]:=hf 0 _ rfl
  refine wp_seq<|wp_rl rfl ?_
  refine RL.box rfl s0 (fun w3 B4 hb5 szw3=>?_)
  replace B4:Blk w3 w.heap.size 49 #[.int .i64 d0.kind,.int .i64 d0.level,.int .i64 d0.value,.slice A1 d0.data.length c1,.slice A2 d0.ports.length c2]:=B4
  have GB4:w.heap.size≤w.heap.size:=T.size
  have T:=Tt T hb5
  refine RL.y rfl (Y.assign (v:=.bool false) rfl)<|RL.nil<|then_n<|wp_seq<|wp_seq<|wp_rbd (by kernel_rfl) (by kernel_rfl)<|RQ.y rfl (Y.fieldAddr (off:=4) rfl (by kernel_rfl))<|RQ.y rfl (Y.load (v:=.slice A2 d0.ports.length c2) rfl (by kernel_rfl) (beC (blkCell B4 (i:=4) rfl)))<|RQ.y rfl (Y.len (by kernel_rfl) rfl)<|RQ.y rfl (Y.binI (v:=.bool ((d0.ports.length:Int)==0)) rfl rfl rfl)<|RQ.y rfl (Y.move (v:=.bool ((d0.ports.length:Int)==0)) rfl) ?_
  rcases bcases ((d0.ports.length:Int)==0) with c7|c7
  ·replace hm:=cF c7 hm
   refine RQ.y (wantT (dj:=10) rfl (vb rfl c7)) (Y.fieldAddr (off:=0) rfl (by kernel_rfl))<|RQ.y (wantT (dj:=10) rfl (vb rfl c7)) (Y.load (v:=.int .i64 d0.kind) rfl (by kernel_rfl) (beC (blkCell B4 (i:=0) rfl)))<|RQ.y (wantT (dj:=10) rfl (vb rfl c7)) (Y.fieldAddr (off:=0) rfl (by kernel_rfl))<|RQ.y (wantT (dj:=10) rfl (vb rfl c7)) (Y.load (v:=.int .i64 d0.kind) rfl (by kernel_rfl) (beC (blkCell B4 (i:=0) rfl)))<|RQ.y (wantT (dj:=10) rfl (vb rfl c7)) (Y.fieldAddr (off:=4) rfl (by kernel_rfl))<|RQ.y (wantT (dj:=10) rfl (vb rfl c7)) (Y.load (v:=.slice A2 d0.ports.length c2) rfl (by kernel_rfl) (beC (blkCell B4 (i:=4) rfl)))<|RQ.y (wantT (dj:=10) rfl (vb rfl c7)) (Y.len (by kernel_rfl) rfl) ?_
   obtain ⟨y8,e9,hm⟩:=bnd hm
   refine RQ.call (wantT (dj:=10) rfl (vb rfl c7)) (am2 rfl rfl) (by kernel_rfl) (v:=.int .i64 y8) (bel (K:=fun _=>True) fun w' hb'=>(c_m_impl_fieldsOf d0.kind (d0.ports.length:Int) _ e9  w' ))<|RQ.call (wantT (dj:=10) rfl (vb rfl c7)) (am2 rfl rfl) (by kernel_rfl) (v:=.int .i64 (portsOf d0.kind y8)) (bel (K:=fun _=>True) fun w' hb'=>(callB (impl_PortsOf d0.kind y8 w')))<|RQ.y (wantT (dj:=10) rfl (vb rfl c7)) (Y.fieldAddr (off:=4) rfl (by kernel_rfl))<|RQ.y (wantT (dj:=10) rfl (vb rfl c7)) (Y.load (v:=.slice A2 d0.ports.length c2) rfl (by kernel_rfl) (beC (blkCell B4 (i:=4) rfl)))<|RQ.y (wantT (dj:=10) rfl (vb rfl c7)) (Y.len (by kernel_rfl) rfl)<|RQ.y (wantT (dj:=10) rfl (vb rfl c7)) (Y.binI (v:=.bool ((portsOf d0.kind y8) != (d0.ports.length:Int))) rfl rfl rfl)<|RQ.y rfl (Y.pick (b:=false) (v:=.bool ((portsOf d0.kind y8) != (d0.ports.length:Int))) (vb rfl c7) rfl)<|RQ.y rfl (Y.move (v:=.bool ((portsOf d0.kind y8) != (d0.ports.length:Int))) rfl) ?_
   rcases bcases ((portsOf d0.kind y8) != (d0.ports.length:Int)) with c10|c10
   ·replace hm:=cF c10 hm
    refine RQ.y (wantT (dj:=25) rfl (vb rfl c10)) (Y.fieldAddr (off:=0) rfl (by kernel_rfl))<|RQ.y (wantT (dj:=25) rfl (vb rfl c10)) (Y.load (v:=.int .i64 d0.kind) rfl (by kernel_rfl) (beC (blkCell B4 (i:=0) rfl)))<|RQ.y (wantT (dj:=25) rfl (vb rfl c10)) (Y.fieldAddr (off:=1) rfl (by kernel_rfl))<|RQ.y (wantT (dj:=25) rfl (vb rfl c10)) (Y.load (v:=.int .i64 d0.level) rfl (by kernel_rfl) (beC (blkCell B4 (i:=1) rfl)))<|RQ.call (wantT (dj:=25) rfl (vb rfl c10)) (am2 rfl rfl) (by kernel_rfl) (v:=.bool (allowed d0.kind d0.level)) (bel (K:=fun _=>True) fun w' hb'=>(callB (impl_isAllowed d0.kind d0.level w')))<|RQ.y (wantT (dj:=25) rfl (vb rfl c10)) (Y.not (b':=(!(allowed d0.kind d0.level))) rfl rfl)<|RQ.y rfl (Y.pick (b:=false) (v:=.bool (!(allowed d0.kind d0.level))) (vb rfl c10) rfl)<|RQ.nil ?_
    intro w11 hb12
    have szw11:=hb12.size
    have B4:=blkT B4 hb12
    have T:=Tt T hb12
    refine then_n ?_
    rcases bcases (allowed d0.kind d0.level) with c13|c13
    ·replace hm:=cF c13 hm
     refine cond_t rfl (vbn rfl c13 rfl)<|wp_seq<|wp_rs rfl<|RQ.y rfl (Y.assign (v:=.bool false) rfl)<|RQ.nil<|then_n<|wp_ret ?_
     obtain rfl:=sj hm
     exact (then_r (ret1 rfl rfl rfl ⟨rfl,T⟩))
    replace hm:=cT c13 hm
    refine cond_f rfl (vbn rfl c13 rfl)<|wp_skip<|then_n<|wp_seq<|wp_rbd (by kernel_rfl) (by kernel_rfl)<|RQ.y rfl (Y.fieldAddr (off:=2) rfl (by kernel_rfl))<|RQ.y rfl (Y.load (v:=.int .i64 d0.value) rfl (by kernel_rfl) (beC (blkCell B4 (i:=2) rfl)))<|RQ.y rfl (Y.binI (v:=.bool (d0.value==0)) rfl rfl rfl)<|RQ.y rfl (Y.fieldAddr (off:=3) rfl (by kernel_rfl))<|RQ.y rfl (Y.load (v:=.slice A1 d0.data.length c1) rfl (by kernel_rfl) (beC (blkCell B4 (i:=3) rfl)))<|RQ.y rfl (Y.len (by kernel_rfl) rfl)<|RQ.y rfl (Y.binI (v:=.bool ((d0.data.length:Int)==0)) rfl rfl rfl)<|RQ.y rfl (Y.assign (v:=.bool (d0.value==0)) rfl)<|RQ.y rfl (Y.assign (v:=.bool ((d0.data.length:Int)==0)) rfl)<|RQ.nil ?_
    intro w14 hb15
    have szw14:=hb15.size
    have B4:=blkT B4 hb15
    have T:=Tt T hb15
    refine then_n<|wp_seq<|wp_rb rfl<|RQ.y rfl (Y.fieldAddr (off:=3) rfl (by kernel_rfl))<|RQ.y rfl (Y.load (v:=.slice A1 d0.data.length c1) rfl (by kernel_rfl) (beC (blkCell B4 (i:=3) rfl))) ?_
    obtain ⟨y16,e17,hm⟩:=bnd hm
    refine RQ.call rfl (am2 rfl rfl) (by kernel_rfl) (v:=.bool y16) (bel (K:=fun _=>True) fun w' hb'=>(c_m_slices_ContainsFunc_int64_int64 d0.data (fun x0=>m_impl_wellFormed_1 x0) _ e17 _ _ _ w' (slArg intRd_ok h1 r1 (Tt T hb')) (by kernel_rfl) (fun x0 b hx w1 hb1=>Calls.arr (by simp) (c_m_impl_wellFormed_1 x0 _ hx  w1 ))))<|RQ.y rfl (Y.not (b':=(!y16)) rfl rfl)<|RQ.y rfl (Y.assign (v:=.bool (!y16)) rfl)<|RQ.nil ?_
    intro w18 hb19
    have szw18:=hb19.size
    have B4:=blkT B4 hb19
    have T:=Tt T hb19
    refine then_n<|wp_seq<|wp_seq<|wp_rs rfl<|RQ.y rfl (Y.fieldAddr (off:=0) rfl (by kernel_rfl))<|RQ.y rfl (Y.load (v:=.int .i64 d0.kind) rfl (by kernel_rfl) (eqC (blkCell B4 (i:=0) rfl)))<|RQ.nil<|then_n<|wp_block<|wp_seq<|wp_rs rfl<|RQ.y rfl (Y.binI (v:=.bool (d0.kind==6)) rfl rfl rfl)<|RQ.y rfl (Y.assign (v:=.bool (d0.kind==6)) rfl)<|RQ.nil<|then_n ?_
    rcases bcases (d0.kind==6) with c20|c20
    ·replace hm:=cF c20 hm
     refine cond_f rfl (vb rfl c20)<|wp_seq<|wp_rs rfl<|RQ.y rfl (Y.binI (v:=.bool (d0.kind==7)) rfl rfl rfl)<|RQ.y rfl (Y.assign (v:=.bool (d0.kind==7)) rfl)<|RQ.nil<|then_n ?_
     rcases bcases (d0.kind==7) with c21|c21
     ·replace hm:=cF c21 hm
      refine cond_f rfl (vb rfl c21)<|wp_seq<|wp_rs rfl<|RQ.y rfl (Y.binI (v:=.bool (d0.kind==8)) rfl rfl rfl)<|RQ.y rfl (Y.assign (v:=.bool (d0.kind==8)) rfl)<|RQ.nil<|then_n ?_
      rcases bcases (d0.kind==8) with c22|c22
      ·replace hm:=cF c22 hm
       refine cond_f rfl (vb rfl c22)<|wp_seq<|wp_rs rfl<|RQ.y rfl (Y.binI (v:=.bool (d0.kind==9)) rfl rfl rfl)<|RQ.y rfl (Y.assign (v:=.bool (d0.kind==9)) rfl)<|RQ.nil<|then_n ?_
       rcases bcases (d0.kind==9) with c23|c23
       ·replace hm:=cF c23 hm
        refine cond_f rfl (vb rfl c23)<|wp_seq<|wp_rs rfl<|RQ.y rfl (Y.binI (v:=.bool (d0.kind==10)) rfl rfl rfl)<|RQ.y rfl (Y.assign (v:=.bool (d0.kind==10)) rfl)<|RQ.nil<|then_n ?_
        rcases bcases (d0.kind==10) with c24|c24
        ·replace hm:=cF c24 hm
         refine cond_f rfl (vb rfl c24)<|wp_seq<|wp_rs rfl<|RQ.y rfl (Y.binI (v:=.bool (d0.kind==11)) rfl rfl rfl)<|RQ.y rfl (Y.assign (v:=.bool (d0.kind==11)) rfl)<|RQ.nil<|then_n ?_
         rcases bcases (d0.kind==11) with c25|c25
         ·replace hm:=cF c25 hm
          refine cond_f rfl (vb rfl c25)<|wp_seq<|wp_rs rfl<|RQ.y rfl (Y.binI (v:=.bool (d0.kind==12)) rfl rfl rfl)<|RQ.y rfl (Y.assign (v:=.bool (d0.kind==12)) rfl)<|RQ.nil<|then_n ?_
          rcases bcases (d0.kind==12) with c26|c26
          ·replace hm:=cF c26 hm
           refine cond_f rfl (vb rfl c26)<|wp_skip ?_
           refine blk_n (then_n ?_)
           refine wp_seq<|wp_rs rfl<|RQ.y rfl (Y.move (v:=.bool (d0.value==0)) rfl)<|RQ.y rfl (Y.move (v:=.bool (d0.value==0)) rfl) ?_
           rcases bcases (d0.value==0) with c27|c27
           ·replace hm:=cF c27 hm
            refine RQ.skip (wantN (dj:=114) rfl (vb rfl c27) rfl)<|RQ.y rfl (Y.pick (b:=false) (v:=.bool false) (vb rfl c27) rfl)<|RQ.y rfl (Y.assign (v:=.bool false) rfl)<|RQ.nil<|then_n<|wp_ret ?_
            obtain rfl:=sj hm
            exact (ret1 rfl rfl rfl ⟨rfl,T⟩)
           replace hm:=cT c27 hm
           refine RQ.y (wantT (dj:=114) rfl (vb rfl c27)) (Y.move (v:=.bool ((d0.data.length:Int)==0)) rfl)<|RQ.y rfl (Y.pick (b:=true) (v:=.bool ((d0.data.length:Int)==0)) (vb rfl c27) rfl)<|RQ.y rfl (Y.assign (v:=.bool ((d0.data.length:Int)==0)) rfl)<|RQ.nil<|then_n<|wp_ret ?_
           obtain rfl:=sj hm
           exact (ret1 rfl rfl rfl ⟨rfl,T⟩)
          replace hm:=cT c26 hm
          refine cond_t rfl (vb rfl c26)<|wp_rb rfl<|RQ.y rfl (Y.fieldAddr (off:=2) rfl (by kernel_rfl))<|RQ.y rfl (Y.load (v:=.int .i64 d0.value) rfl (by kernel_rfl) (beC (blkCell B4 (i:=2) rfl))) ?_
          obtain ⟨y28,e29,hm⟩:=bnd hm
          refine RQ.call rfl (am1 rfl) (by kernel_rfl) (v:=.bool y28) (bel (K:=fun _=>True) fun w' hb'=>(c_m_impl_isDefIndex d0.value _ e29  w' ))<|RQ.y rfl (Y.assign (v:=.bool y28) rfl)<|RQ.nil ?_
          intro w30 hb31
          have szw30:=hb31.size
          have T:=Tt T hb31
          refine blk_n (then_n ?_)
          refine wp_seq<|wp_rs rfl<|RQ.y rfl (Y.move (v:=.bool y28) rfl)<|RQ.y rfl (Y.move (v:=.bool y28) rfl) ?_
          rcases bcases y28 with c32|c32
          ·replace hm:=cF c32 hm
           refine RQ.skip (wantN (dj:=114) rfl (vb rfl c32) rfl)<|RQ.y rfl (Y.pick (b:=false) (v:=.bool false) (vb rfl c32) rfl)<|RQ.y rfl (Y.assign (v:=.bool false) rfl)<|RQ.nil<|then_n<|wp_ret ?_
           obtain rfl:=sj hm
           exact (ret1 rfl rfl rfl ⟨rfl,T⟩)
          replace hm:=cT c32 hm
          refine RQ.y (wantT (dj:=114) rfl (vb rfl c32)) (Y.move (v:=.bool ((d0.data.length:Int)==0)) rfl)<|RQ.y rfl (Y.pick (b:=true) (v:=.bool ((d0.data.length:Int)==0)) (vb rfl c32) rfl)<|RQ.y rfl (Y.assign (v:=.bool ((d0.data.length:Int)==0)) rfl)<|RQ.nil<|then_n<|wp_ret ?_
          obtain rfl:=sj hm
          exact (ret1 rfl rfl rfl ⟨rfl,T⟩)
         replace hm:=cT c25 hm
         refine cond_t rfl (vb rfl c25)<|wp_rs rfl<|RQ.y rfl (Y.fieldAddr (off:=3) rfl (by kernel_rfl))<|RQ.y rfl (Y.load (v:=.slice A1 d0.data.length c1) rfl (by kernel_rfl) (eqC (blkCell B4 (i:=3) rfl)))<|RQ.y rfl (Y.len (by kernel_rfl) rfl)<|RQ.y rfl (Y.binI (v:=.bool ((d0.data.length:Int)==2)) rfl rfl rfl)<|RQ.y rfl (Y.move (v:=.bool ((d0.data.length:Int)==2)) rfl) ?_
         rcases bcases ((d0.data.length:Int)==2) with c33|c33
         ·replace hm:=cF c33 hm
          refine RQ.skip (wantN (dj:=105) rfl (vb rfl c33) rfl)<|RQ.y rfl (Y.pick (b:=false) (v:=.bool false) (vb rfl c33) rfl)<|RQ.y rfl (Y.assign (v:=.bool false) rfl)<|RQ.nil ?_
          refine blk_n (then_n ?_)
          refine wp_seq<|wp_rs rfl<|RQ.y rfl (Y.move (v:=.bool (d0.value==0)) rfl)<|RQ.y rfl (Y.move (v:=.bool (d0.value==0)) rfl) ?_
          rcases bcases (d0.value==0) with c34|c34
          ·replace hm:=cF c34 hm
           refine RQ.skip (wantN (dj:=114) rfl (vb rfl c34) rfl)<|RQ.y rfl (Y.pick (b:=false) (v:=.bool false) (vb rfl c34) rfl)<|RQ.y rfl (Y.assign (v:=.bool false) rfl)<|RQ.nil<|then_n<|wp_ret ?_
           obtain rfl:=sj hm
           exact (ret1 rfl rfl rfl ⟨rfl,T⟩)
          replace hm:=cT c34 hm
          refine RQ.y (wantT (dj:=114) rfl (vb rfl c34)) (Y.move (v:=.bool false) rfl)<|RQ.y rfl (Y.pick (b:=true) (v:=.bool false) (vb rfl c34) rfl)<|RQ.y rfl (Y.assign (v:=.bool false) rfl)<|RQ.nil<|then_n<|wp_ret ?_
          obtain rfl:=sj hm
          exact (ret1 rfl rfl rfl ⟨rfl,T⟩)
         replace hm:=cT c33 hm
         refine RQ.y (wantT (dj:=105) rfl (vb rfl c33)) (Y.move (v:=.bool (!y16)) rfl)<|RQ.y rfl (Y.pick (b:=true) (v:=.bool (!y16)) (vb rfl c33) rfl)<|RQ.y rfl (Y.assign (v:=.bool (!y16)) rfl)<|RQ.nil ?_
         refine blk_n (then_n ?_)
         refine wp_seq<|wp_rs rfl<|RQ.y rfl (Y.move (v:=.bool (d0.value==0)) rfl)<|RQ.y rfl (Y.move (v:=.bool (d0.value==0)) rfl) ?_
         rcases bcases (d0.value==0) with c35|c35
         ·replace hm:=cF c35 hm
          refine RQ.skip (wantN (dj:=114) rfl (vb rfl c35) rfl)<|RQ.y rfl (Y.pick (b:=false) (v:=.bool false) (vb rfl c35) rfl)<|RQ.y rfl (Y.assign (v:=.bool false) rfl)<|RQ.nil<|then_n<|wp_ret ?_
          obtain rfl:=sj hm
          exact (ret1 rfl rfl rfl ⟨rfl,T⟩)
         replace hm:=cT c35 hm
         refine RQ.y (wantT (dj:=114) rfl (vb rfl c35)) (Y.move (v:=.bool (!y16)) rfl)<|RQ.y rfl (Y.pick (b:=true) (v:=.bool (!y16)) (vb rfl c35) rfl)<|RQ.y rfl (Y.assign (v:=.bool (!y16)) rfl)<|RQ.nil<|then_n<|wp_ret ?_
         obtain rfl:=sj hm
         exact (ret1 rfl rfl rfl ⟨rfl,T⟩)
        replace hm:=cT c24 hm
        refine cond_t rfl (vb rfl c24)<|wp_rs rfl<|RQ.y rfl (Y.fieldAddr (off:=3) rfl (by kernel_rfl))<|RQ.y rfl (Y.load (v:=.slice A1 d0.data.length c1) rfl (by kernel_rfl) (eqC (blkCell B4 (i:=3) rfl)))<|RQ.y rfl (Y.len (by kernel_rfl) rfl)<|RQ.y rfl (Y.binI (v:=.bool (decide ((d0.data.length:Int) ≥ 1))) rfl rfl rfl)<|RQ.y rfl (Y.move (v:=.bool (decide ((d0.data.length:Int) ≥ 1))) rfl) ?_
        rcases bcases (decide ((d0.data.length:Int) ≥ 1)) with c36|c36
        ·replace hm:=cF c36 hm
         have pc36:=of_decide_eq_false c36
         iterate 4 refine RQ.skip (wantN (dj:=90) rfl (vb rfl c36) rfl) ?_
         refine RQ.y rfl (Y.pick (b:=false) (v:=.bool false) (vb rfl c36) rfl)<|RQ.y rfl (Y.move (v:=.bool false) rfl)<|RQ.skip (wantN (dj:=96) rfl rfl rfl)<|RQ.y rfl (Y.pick (b:=false) (v:=.bool false) rfl rfl)<|RQ.y rfl (Y.assign (v:=.bool false) rfl)<|RQ.nil ?_
         refine blk_n (then_n ?_)
         refine wp_seq<|wp_rs rfl<|RQ.y rfl (Y.move (v:=.bool (d0.value==0)) rfl)<|RQ.y rfl (Y.move (v:=.bool (d0.value==0)) rfl) ?_
         rcases bcases (d0.value==0) with c37|c37
         ·replace hm:=cF c37 hm
          refine RQ.skip (wantN (dj:=114) rfl (vb rfl c37) rfl)<|RQ.y rfl (Y.pick (b:=false) (v:=.bool false) (vb rfl c37) rfl)<|RQ.y rfl (Y.assign (v:=.bool false) rfl)<|RQ.nil<|then_n<|wp_ret ?_
          obtain rfl:=sj hm
          exact (ret1 rfl rfl rfl ⟨rfl,T⟩)
         replace hm:=cT c37 hm
         refine RQ.y (wantT (dj:=114) rfl (vb rfl c37)) (Y.move (v:=.bool false) rfl)<|RQ.y rfl (Y.pick (b:=true) (v:=.bool false) (vb rfl c37) rfl)<|RQ.y rfl (Y.assign (v:=.bool false) rfl)<|RQ.nil<|then_n<|wp_ret ?_
         obtain rfl:=sj hm
         exact (ret1 rfl rfl rfl ⟨rfl,T⟩)
        replace hm:=cT c36 hm
        have pc36:=of_decide_eq_true c36
        refine RQ.y (wantT (dj:=90) rfl (vb rfl c36)) (Y.fieldAddr (off:=3) rfl (by kernel_rfl))<|RQ.y (wantT (dj:=90) rfl (vb rfl c36)) (Y.load (v:=.slice A1 d0.data.length c1) rfl (by kernel_rfl) (eqC (blkCell B4 (i:=3) rfl)))<|RQ.y (wantT (dj:=90) rfl (vb rfl c36)) (Y.len (by kernel_rfl) rfl)<|RQ.y (wantT (dj:=90) rfl (vb rfl c36)) (Y.binI (v:=.bool (decide ((d0.data.length:Int)≤4))) rfl rfl rfl)<|RQ.y rfl (Y.pick (b:=true) (v:=.bool (decide ((d0.data.length:Int)≤4))) (vb rfl c36) rfl)<|RQ.y rfl (Y.move (v:=.bool (decide ((d0.data.length:Int)≤4))) rfl) ?_
        rcases bcases (decide ((d0.data.length:Int)≤4)) with c38|c38
        ·replace hm:=cF c38 hm
         have pc38:=of_decide_eq_false c38
         refine RQ.skip (wantN (dj:=96) rfl (vb rfl c38) rfl)<|RQ.y rfl (Y.pick (b:=false) (v:=.bool false) (vb rfl c38) rfl)<|RQ.y rfl (Y.assign (v:=.bool false) rfl)<|RQ.nil ?_
         refine blk_n (then_n ?_)
         refine wp_seq<|wp_rs rfl<|RQ.y rfl (Y.move (v:=.bool (d0.value==0)) rfl)<|RQ.y rfl (Y.move (v:=.bool (d0.value==0)) rfl) ?_
         rcases bcases (d0.value==0) with c39|c39
         ·replace hm:=cF c39 hm
          refine RQ.skip (wantN (dj:=114) rfl (vb rfl c39) rfl)<|RQ.y rfl (Y.pick (b:=false) (v:=.bool false) (vb rfl c39) rfl)<|RQ.y rfl (Y.assign (v:=.bool false) rfl)<|RQ.nil<|then_n<|wp_ret ?_
          obtain rfl:=sj hm
          exact (ret1 rfl rfl rfl ⟨rfl,T⟩)
         replace hm:=cT c39 hm
         refine RQ.y (wantT (dj:=114) rfl (vb rfl c39)) (Y.move (v:=.bool false) rfl)<|RQ.y rfl (Y.pick (b:=true) (v:=.bool false) (vb rfl c39) rfl)<|RQ.y rfl (Y.assign (v:=.bool false) rfl)<|RQ.nil<|then_n<|wp_ret ?_
         obtain rfl:=sj hm
         exact (ret1 rfl rfl rfl ⟨rfl,T⟩)
        replace hm:=cT c38 hm
        have pc38:=of_decide_eq_true c38
        refine RQ.y (wantT (dj:=96) rfl (vb rfl c38)) (Y.move (v:=.bool (!y16)) rfl)<|RQ.y rfl (Y.pick (b:=true) (v:=.bool (!y16)) (vb rfl c38) rfl)<|RQ.y rfl (Y.assign (v:=.bool (!y16)) rfl)<|RQ.nil ?_
        refine blk_n (then_n ?_)
        refine wp_seq<|wp_rs rfl<|RQ.y rfl (Y.move (v:=.bool (d0.value==0)) rfl)<|RQ.y rfl (Y.move (v:=.bool (d0.value==0)) rfl) ?_
        rcases bcases (d0.value==0) with c40|c40
        ·replace hm:=cF c40 hm
         refine RQ.skip (wantN (dj:=114) rfl (vb rfl c40) rfl)<|RQ.y rfl (Y.pick (b:=false) (v:=.bool false) (vb rfl c40) rfl)<|RQ.y rfl (Y.assign (v:=.bool false) rfl)<|RQ.nil<|then_n<|wp_ret ?_
         obtain rfl:=sj hm
         exact (ret1 rfl rfl rfl ⟨rfl,T⟩)
        replace hm:=cT c40 hm
        refine RQ.y (wantT (dj:=114) rfl (vb rfl c40)) (Y.move (v:=.bool (!y16)) rfl)<|RQ.y rfl (Y.pick (b:=true) (v:=.bool (!y16)) (vb rfl c40) rfl)<|RQ.y rfl (Y.assign (v:=.bool (!y16)) rfl)<|RQ.nil<|then_n<|wp_ret ?_
        obtain rfl:=sj hm
        exact (ret1 rfl rfl rfl ⟨rfl,T⟩)
       replace hm:=cT c23 hm
       refine cond_t rfl (vb rfl c23)<|wp_rs rfl<|RQ.y rfl (Y.fieldAddr (off:=2) rfl (by kernel_rfl))<|RQ.y rfl (Y.load (v:=.int .i64 d0.value) rfl (by kernel_rfl) (eqC (blkCell B4 (i:=2) rfl)))<|RQ.y rfl (Y.binI (v:=.bool (decide (d0.value ≥ 0))) rfl rfl rfl)<|RQ.y rfl (Y.move (v:=.bool (decide (d0.value ≥ 0))) rfl) ?_
       rcases bcases (decide (d0.value ≥ 0)) with c41|c41
       ·replace hm:=cF c41 hm
        have pc41:=of_decide_eq_false c41
        iterate 3 refine RQ.skip (wantN (dj:=79) rfl (vb rfl c41) rfl) ?_
        refine RQ.y rfl (Y.pick (b:=false) (v:=.bool false) (vb rfl c41) rfl)<|RQ.y rfl (Y.assign (v:=.bool false) rfl)<|RQ.nil ?_
        refine blk_n (then_n ?_)
        refine wp_seq<|wp_rs rfl<|RQ.y rfl (Y.move (v:=.bool false) rfl)<|RQ.y rfl (Y.move (v:=.bool false) rfl)<|RQ.skip (wantN (dj:=114) rfl rfl rfl)<|RQ.y rfl (Y.pick (b:=false) (v:=.bool false) rfl rfl)<|RQ.y rfl (Y.assign (v:=.bool false) rfl)<|RQ.nil<|then_n<|wp_ret ?_
        obtain rfl:=sj hm
        exact (ret1 rfl rfl rfl ⟨rfl,T⟩)
       replace hm:=cT c41 hm
       have pc41:=of_decide_eq_true c41
       refine RQ.y (wantT (dj:=79) rfl (vb rfl c41)) (Y.fieldAddr (off:=2) rfl (by kernel_rfl))<|RQ.y (wantT (dj:=79) rfl (vb rfl c41)) (Y.load (v:=.int .i64 d0.value) rfl (by kernel_rfl) (eqC (blkCell B4 (i:=2) rfl)))<|RQ.y (wantT (dj:=79) rfl (vb rfl c41)) (Y.binI (v:=.bool (decide (d0.value < 4))) rfl rfl rfl)<|RQ.y rfl (Y.pick (b:=true) (v:=.bool (decide (d0.value < 4))) (vb rfl c41) rfl)<|RQ.y rfl (Y.assign (v:=.bool (decide (d0.value < 4))) rfl)<|RQ.nil ?_
       refine blk_n (then_n ?_)
       refine wp_seq<|wp_rs rfl<|RQ.y rfl (Y.move (v:=.bool (decide (d0.value < 4))) rfl)<|RQ.y rfl (Y.move (v:=.bool (decide (d0.value < 4))) rfl) ?_
       rcases bcases (decide (d0.value < 4)) with c42|c42
       ·replace hm:=cF c42 hm
        have pc42:=of_decide_eq_false c42
        refine RQ.skip (wantN (dj:=114) rfl (vb rfl c42) rfl)<|RQ.y rfl (Y.pick (b:=false) (v:=.bool false) (vb rfl c42) rfl)<|RQ.y rfl (Y.assign (v:=.bool false) rfl)<|RQ.nil<|then_n<|wp_ret ?_
        obtain rfl:=sj hm
        exact (ret1 rfl rfl rfl ⟨rfl,T⟩)
       replace hm:=cT c42 hm
       have pc42:=of_decide_eq_true c42
       refine RQ.y (wantT (dj:=114) rfl (vb rfl c42)) (Y.move (v:=.bool ((d0.data.length:Int)==0)) rfl)<|RQ.y rfl (Y.pick (b:=true) (v:=.bool ((d0.data.length:Int)==0)) (vb rfl c42) rfl)<|RQ.y rfl (Y.assign (v:=.bool ((d0.data.length:Int)==0)) rfl)<|RQ.nil<|then_n<|wp_ret ?_
       obtain rfl:=sj hm
       exact (ret1 rfl rfl rfl ⟨rfl,T⟩)
      replace hm:=cT c22 hm
      refine cond_t rfl (vb rfl c22)<|wp_seq<|wp_rb rfl<|RQ.y rfl (Y.fieldAddr (off:=2) rfl (by kernel_rfl))<|RQ.y rfl (Y.load (v:=.int .i64 d0.value) rfl (by kernel_rfl) (beC (blkCell B4 (i:=2) rfl))) ?_
      obtain ⟨y43,e44,hm⟩:=bnd hm
      refine RQ.call rfl (am1 rfl) (by kernel_rfl) (v:=.bool y43) (bel (K:=fun _=>True) fun w' hb'=>(c_m_impl_isOperator d0.value _ e44  w' ))<|RQ.y rfl (Y.move (v:=.bool y43) rfl) ?_
      rcases bcases y43 with c45|c45
      ·replace hm:=cF c45 hm
       iterate 4 refine RQ.skip (wantN (dj:=61) rfl (vb rfl c45) rfl) ?_
       refine RQ.y rfl (Y.pick (b:=false) (v:=.bool false) (vb rfl c45) rfl)<|RQ.y rfl (Y.move (v:=.bool false) rfl) ?_
       iterate 5 refine RQ.skip (wantN (dj:=67) rfl rfl rfl) ?_
       refine RQ.y rfl (Y.pick (b:=false) (v:=.bool false) rfl rfl)<|RQ.y rfl (Y.assign (v:=.bool false) rfl)<|RQ.nil ?_
       intro w46 hb47
       have szw46:=hb47.size
       have T:=Tt T hb47
       refine then_n<|wp_ret ?_
       obtain rfl:=sj hm
       exact (blk_r (then_r (ret1 rfl rfl rfl ⟨rfl,T⟩)))
      replace hm:=cT c45 hm
      refine RQ.y (wantT (dj:=61) rfl (vb rfl c45)) (Y.fieldAddr (off:=3) rfl (by kernel_rfl))<|RQ.y (wantT (dj:=61) rfl (vb rfl c45)) (Y.load (v:=.slice A1 d0.data.length c1) rfl (by kernel_rfl) (beC (blkCell B4 (i:=3) rfl)))<|RQ.y (wantT (dj:=61) rfl (vb rfl c45)) (Y.len (by kernel_rfl) rfl)<|RQ.y (wantT (dj:=61) rfl (vb rfl c45)) (Y.binI (v:=.bool ((d0.data.length:Int)==1)) rfl rfl rfl)<|RQ.y rfl (Y.pick (b:=true) (v:=.bool ((d0.data.length:Int)==1)) (vb rfl c45) rfl)<|RQ.y rfl (Y.move (v:=.bool ((d0.data.length:Int)==1)) rfl) ?_
      rcases bcases ((d0.data.length:Int)==1) with c48|c48
      ·replace hm:=cF c48 hm
       iterate 5 refine RQ.skip (wantN (dj:=67) rfl (vb rfl c48) rfl) ?_
       refine RQ.y rfl (Y.pick (b:=false) (v:=.bool false) (vb rfl c48) rfl)<|RQ.y rfl (Y.assign (v:=.bool false) rfl)<|RQ.nil ?_
       intro w49 hb50
       have szw49:=hb50.size
       have T:=Tt T hb50
       refine then_n<|wp_ret ?_
       obtain rfl:=sj hm
       exact (blk_r (then_r (ret1 rfl rfl rfl ⟨rfl,T⟩)))
      replace hm:=cT c48 hm
      refine RQ.y (wantT (dj:=67) rfl (vb rfl c48)) (Y.fieldAddr (off:=3) rfl (by kernel_rfl))<|RQ.y (wantT (dj:=67) rfl (vb rfl c48)) (Y.load (v:=.slice A1 d0.data.length c1) rfl (by kernel_rfl) (beC (blkCell B4 (i:=3) rfl))) ?_
      obtain ⟨x51,hx54,hm⟩:=bnd hm
      obtain ⟨k52,hk55,hl56,hx54⟩:=getI_some hx54
      obtain ⟨b58,o59,rfl,hbb58⟩:=h1.addr (by omega)
      obtain ⟨cs53,hRcs53,hc57⟩:=h1.el hx54
      have hScs53:=hRcs53
      obtain rfl:=hRcs53
      refine RQ.y (wantT (dj:=67) rfl (vb rfl c48)) (Y.indexAddr (m:=k52) (sz:=1) rfl rfl hk55 hl56 (by kernel_rfl))<|RQ.y (wantT (dj:=67) rfl (vb rfl c48)) (Y.load (v:=.int .i64 x51) rfl (by kernel_rfl) (beC (cellT T (hc57 0 _ rfl)))) ?_
      obtain ⟨y60,e61,hm⟩:=bnd hm
      refine RQ.call (wantT (dj:=67) rfl (vb rfl c48)) (am1 rfl) (by kernel_rfl) (v:=.bool y60) (bel (K:=fun _=>True) fun w' hb'=>(c_m_impl_isInt x51 _ e61  w' ))<|RQ.y rfl (Y.pick (b:=true) (v:=.bool y60) (vb rfl c48) rfl)<|RQ.y rfl (Y.assign (v:=.bool y60) rfl)<|RQ.nil ?_
      intro w62 hb63
      have szw62:=hb63.size
      have T:=Tt T hb63
      refine then_n<|wp_ret ?_
      obtain rfl:=sj hm
      exact (blk_r (then_r (ret1 rfl rfl rfl ⟨rfl,T⟩)))
     replace hm:=cT c21 hm
     refine cond_t rfl (vb rfl c21)<|wp_rb rfl<|RQ.y rfl (Y.fieldAddr (off:=2) rfl (by kernel_rfl))<|RQ.y rfl (Y.load (v:=.int .i64 d0.value) rfl (by kernel_rfl) (beC (blkCell B4 (i:=2) rfl))) ?_
     obtain ⟨y64,e65,hm⟩:=bnd hm
     refine RQ.call rfl (am1 rfl) (by kernel_rfl) (v:=.bool y64) (bel (K:=fun _=>True) fun w' hb'=>(c_m_impl_isOperator d0.value _ e65  w' ))<|RQ.y rfl (Y.assign (v:=.bool y64) rfl)<|RQ.nil ?_
     intro w66 hb67
     have szw66:=hb67.size
     have T:=Tt T hb67
     refine blk_n (then_n ?_)
     refine wp_seq<|wp_rs rfl<|RQ.y rfl (Y.move (v:=.bool y64) rfl)<|RQ.y rfl (Y.move (v:=.bool y64) rfl) ?_
     rcases bcases y64 with c68|c68
     ·replace hm:=cF c68 hm
      refine RQ.skip (wantN (dj:=114) rfl (vb rfl c68) rfl)<|RQ.y rfl (Y.pick (b:=false) (v:=.bool false) (vb rfl c68) rfl)<|RQ.y rfl (Y.assign (v:=.bool false) rfl)<|RQ.nil<|then_n<|wp_ret ?_
      obtain rfl:=sj hm
      exact (ret1 rfl rfl rfl ⟨rfl,T⟩)
     replace hm:=cT c68 hm
     refine RQ.y (wantT (dj:=114) rfl (vb rfl c68)) (Y.move (v:=.bool ((d0.data.length:Int)==0)) rfl)<|RQ.y rfl (Y.pick (b:=true) (v:=.bool ((d0.data.length:Int)==0)) (vb rfl c68) rfl)<|RQ.y rfl (Y.assign (v:=.bool ((d0.data.length:Int)==0)) rfl)<|RQ.nil<|then_n<|wp_ret ?_
     obtain rfl:=sj hm
     exact (ret1 rfl rfl rfl ⟨rfl,T⟩)
    replace hm:=cT c20 hm
    refine cond_t rfl (vb rfl c20)<|wp_rb rfl<|RQ.y rfl (Y.fieldAddr (off:=2) rfl (by kernel_rfl))<|RQ.y rfl (Y.load (v:=.int .i64 d0.value) rfl (by kernel_rfl) (beC (blkCell B4 (i:=2) rfl))) ?_
    obtain ⟨y69,e70,hm⟩:=bnd hm
    refine RQ.call rfl (am1 rfl) (by kernel_rfl) (v:=.bool y69) (bel (K:=fun _=>True) fun w' hb'=>(c_m_impl_isInt d0.value _ e70  w' ))<|RQ.y rfl (Y.assign (v:=.bool y69) rfl)<|RQ.nil ?_
    intro w71 hb72
    have szw71:=hb72.size
    have T:=Tt T hb72
    refine blk_n (then_n ?_)
    refine wp_seq<|wp_rs rfl<|RQ.y rfl (Y.move (v:=.bool y69) rfl)<|RQ.y rfl (Y.move (v:=.bool y69) rfl) ?_
    rcases bcases y69 with c73|c73
    ·replace hm:=cF c73 hm
     refine RQ.skip (wantN (dj:=114) rfl (vb rfl c73) rfl)<|RQ.y rfl (Y.pick (b:=false) (v:=.bool false) (vb rfl c73) rfl)<|RQ.y rfl (Y.assign (v:=.bool false) rfl)<|RQ.nil<|then_n<|wp_ret ?_
     obtain rfl:=sj hm
     exact (ret1 rfl rfl rfl ⟨rfl,T⟩)
    replace hm:=cT c73 hm
    refine RQ.y (wantT (dj:=114) rfl (vb rfl c73)) (Y.move (v:=.bool ((d0.data.length:Int)==0)) rfl)<|RQ.y rfl (Y.pick (b:=true) (v:=.bool ((d0.data.length:Int)==0)) (vb rfl c73) rfl)<|RQ.y rfl (Y.assign (v:=.bool ((d0.data.length:Int)==0)) rfl)<|RQ.nil<|then_n<|wp_ret ?_
    obtain rfl:=sj hm
    exact (ret1 rfl rfl rfl ⟨rfl,T⟩)
   replace hm:=cT c10 hm
   iterate 6 refine RQ.skip (wantN (dj:=25) rfl (vb rfl c10) rfl) ?_
   refine RQ.y rfl (Y.pick (b:=true) (v:=.bool true) (vb rfl c10) rfl)<|RQ.nil ?_
   intro w74 hb75
   have szw74:=hb75.size
   have B4:=blkT B4 hb75
   have T:=Tt T hb75
   refine then_n<|cond_t rfl rfl<|wp_seq<|wp_rs rfl<|RQ.y rfl (Y.assign (v:=.bool false) rfl)<|RQ.nil<|then_n<|wp_ret ?_
   obtain rfl:=sj hm
   exact (then_r (ret1 rfl rfl rfl ⟨rfl,T⟩))
  replace hm:=cT c7 hm
  iterate 13 refine RQ.skip (wantN (dj:=10) rfl (vb rfl c7) rfl) ?_
  refine RQ.y rfl (Y.pick (b:=true) (v:=.bool true) (vb rfl c7) rfl)<|RQ.y rfl (Y.move (v:=.bool true) rfl) ?_
  iterate 6 refine RQ.skip (wantN (dj:=25) rfl rfl rfl) ?_
  refine RQ.y rfl (Y.pick (b:=true) (v:=.bool true) rfl rfl)<|RQ.nil ?_
  intro w76 hb77
  have szw76:=hb77.size
  have B4:=blkT B4 hb77
  have T:=Tt T hb77
  refine then_n<|cond_t rfl rfl<|wp_seq<|wp_rs rfl<|RQ.y rfl (Y.assign (v:=.bool false) rfl)<|RQ.nil<|then_n<|wp_ret ?_
  obtain rfl:=sj hm
  exact (then_r (ret1 rfl rfl rfl ⟨rfl,T⟩))
def m_impl_areAgents_A1:Option Bool:=
  some true
def m_impl_areAgents_B1 (d0:List DAgent) (rec1:Int→Option Bool) (K1:Option Bool) (i4:Int):Option Bool:=
  (bif (decide (i4 < (d0.length:Int))) then ((getI d0 i4).bind fun x7=>((m_impl_wellFormed x7).bind fun y25=>(bif y25 then (bif ((x7.kind==1) != (i4==0)) then some false else (rec1 (i4+1))) else some false))) else (K1))
def m_impl_areAgents_L1 (d0:List DAgent) (K1:Option Bool):Nat→Int→Option Bool
  |0,_=>none
  |g+1,i4=>m_impl_areAgents_B1 d0 (m_impl_areAgents_L1 d0 K1 g) K1 i4
def m_impl_areAgents (d0:List DAgent):Option Bool:=
  (bif (decide ((d0.length:Int) < 1)) then some false else (bif (decide ((d0.length:Int) > 600)) then some false else (m_impl_areAgents_L1 d0 m_impl_areAgents_A1 (d0.length+1) 0)))
set_option maxHeartbeats 2000000 in
theorem c_m_impl_areAgents (d0:List DAgent) (r:Bool) (hm:m_impl_areAgents d0=some r) (v0:Value) (w:World) (hv0:Sl agentRd 5 w v0 d0) :
    Calls Tryz.prog 32 #[v0] w fun e w'=>e=.returned (.bool r)∧Below w.heap.size w w':=by
  obtain ⟨Aa0,na0,ca0,rfl,ha0,ra0⟩:=hv0
  have ea0:=ha0.len; subst ea0
  have qa0:=len_le ra0
  have T:=Below.refl w.heap.size w
  unfold m_impl_areAgents at hm
  refine enter 32 Tryz.func32 rfl rfl rfl ?_
  intro f hf
  have s0:f 0=.slice Aa0 d0.length ca0:=hf 0 _ rfl
  refine wp_seq<|wp_rs rfl<|RQ.y rfl (Y.assign (v:=.bool false) rfl)<|RQ.nil<|then_n<|wp_seq<|wp_seq<|wp_rs rfl<|RQ.y rfl (Y.move (v:=.slice Aa0 d0.length ca0) s0)<|RQ.y rfl (Y.len (by kernel_rfl) rfl)<|RQ.y rfl (Y.binI (v:=.bool (decide ((d0.length:Int) < 1))) rfl rfl rfl)<|RQ.y rfl (Y.move (v:=.bool (decide ((d0.length:Int) < 1))) rfl) ?_
  rcases bcases (decide ((d0.length:Int) < 1)) with c1|c1
  ·replace hm:=cF c1 hm
   have pc1:=of_decide_eq_false c1
   refine RQ.y (wantT (dj:=8) rfl (vb rfl c1)) (Y.move (v:=.slice Aa0 d0.length ca0) s0)<|RQ.y (wantT (dj:=8) rfl (vb rfl c1)) (Y.len (by kernel_rfl) rfl)<|RQ.y (wantT (dj:=8) rfl (vb rfl c1)) (Y.binI (v:=.bool (decide ((d0.length:Int) > 600))) rfl rfl rfl)<|RQ.y rfl (Y.pick (b:=false) (v:=.bool (decide ((d0.length:Int) > 600))) (vb rfl c1) rfl)<|RQ.nil<|then_n ?_
   rcases bcases (decide ((d0.length:Int) > 600)) with c2|c2
   ·replace hm:=cF c2 hm
    have pc2:=of_decide_eq_false c2
    refine cond_f rfl (vb rfl c2)<|wp_skip<|then_n<|wp_seq<|wp_seq<|wp_rs rfl<|RQ.y rfl (Y.move (v:=.slice Aa0 d0.length ca0) s0)<|RQ.y rfl (Y.len (by kernel_rfl) rfl)<|RQ.y rfl (Y.move (v:=.int .i64 0) rfl)<|RQ.nil<|then_n<|wp_block ?_
    obtain ⟨K1,hK1,hm⟩ :∃K,K=m_impl_areAgents_A1∧m_impl_areAgents_L1 d0 K (d0.length+1) 0=some r:=⟨_,rfl,hm⟩
    refine wp_loopX (fun g f w'=>∃(i4:Int),f 13=.slice Aa0 d0.length ca0∧f 14=.int .i64 (d0.length:Int)∧f 15=.int .i64 i4∧0≤i4∧Below w.heap.size w w'∧m_impl_areAgents_L1 d0 K1 g i4=some r) 0 (fun f w'=>Below w.heap.size w w'∧m_impl_areAgents_A1  = some r) (d0.length+1) ⟨0,rfl,rfl,rfl,(by omega),T,hm⟩ ?_ ?_
    ·rintro f w3 ⟨T,hm⟩
     unfold m_impl_areAgents_A1 at hm
     refine blk_hit (then_n ?_)
     refine wp_seq<|wp_rs rfl<|RQ.y rfl (Y.assign (v:=.bool true) rfl)<|RQ.nil<|then_n<|wp_ret ?_
     obtain rfl:=sj hm
     exact (ret1 rfl rfl rfl ⟨rfl,T⟩)
    rintro g f w5 ⟨i4,s13_1,s14_1,s15_1,nn15_1,T,hm⟩
    rcases g with _|g
    ·simp only [m_impl_areAgents_L1] at hm; cases hm
    obtain ⟨rec1,hrec1,hm⟩ :∃z,z=m_impl_areAgents_L1 d0 K1 g∧m_impl_areAgents_B1 d0 z K1 i4=some r:=⟨_,rfl,hm⟩
    unfold m_impl_areAgents_B1 at hm
    refine wp_seq<|wp_rs rfl<|RQ.y rfl (Y.binI (v:=.bool (decide (i4 < (d0.length:Int)))) s15_1 s14_1 rfl)<|RQ.nil<|then_n<|wp_seq ?_
    rcases bcases (decide (i4 < (d0.length:Int))) with c6|c6
    ·replace hm:=cF c6 hm
     have pc6:=of_decide_eq_false c6
     refine cond_f rfl (vb rfl c6)<|wp_exit ?_
     exact (then_x (then_x (hit_x ⟨_,rfl,⟨T,(by rw [hK1] at hm; exact hm)⟩⟩)))
    replace hm:=cT c6 hm
    have pc6:=of_decide_eq_true c6
    refine cond_t rfl (vb rfl c6)<|wp_skip<|then_n<|wp_seq<|wp_block<|wp_seq<|wp_rl rfl<|RL.y rfl (Y.move (v:=.int .i64 i4) s15_1) ?_
    obtain ⟨x7,hx10,hm⟩:=bnd hm
    obtain ⟨k8,hk11,hl12,hx10⟩:=getI_some hx10
    obtain ⟨b14,o15,rfl,hbb14⟩:=ha0.addr (by omega)
    obtain ⟨cs9,hRcs9,hc13⟩:=ha0.el hx10
    have hScs9:=hRcs9
    obtain ⟨A16,n16,c16,A17,n17,c17,rfl,⟨h16,r16⟩,⟨h17,r17⟩⟩:=hRcs9
    have e16:=h16.len; subst e16
    have q16:=len_le r16
    have e17:=h17.len; subst e17
    have q17:=len_le r17
    refine RL.y rfl (Y.indexAddr (m:=k8) (sz:=5) s13_1 s15_1 hk11 hl12 (by kernel_rfl))<|RL.y rfl (Y.loadN (cs:=[.int .i64 x7.kind,.int .i64 x7.level,.int .i64 x7.value,.slice A16 x7.data.length c16,.slice A17 x7.ports.length c17]) rfl (by kernel_rfl) (cells5 (eqC (cellT T (hc13 0 _ rfl))) (eqC (cellT T (hc13 1 _ rfl))) (eqC (cellT T (hc13 2 _ rfl))) (eqC (cellT T (hc13 3 _ rfl))) (eqC (cellT T (hc13 4 _ rfl))))) ?_
    refine RL.alloc (z:=.agg #[.int .i64 0,.int .i64 0,.int .i64 0,.slice none 0 0,.slice none 0 0]) rfl (by kernel_rfl) (fun w18 B19 hb20 szw18=>?_)
    replace B19:Blk w18 w5.heap.size 49 #[.int .i64 0,.int .i64 0,.int .i64 0,.slice none 0 0,.slice none 0 0]:=B19
    have GB19:w.heap.size≤w5.heap.size:=T.size
    have T:=Tt T hb20
    refine RL.y rfl (Y.assign (v:=.int .i64 i4) rfl) ?_
    refine RL.store (v:=.agg #[.int .i64 x7.kind,.int .i64 x7.level,.int .i64 x7.value,.slice A16 x7.data.length c16,.slice A17 x7.ports.length c17]) (cs':=#[.int .i64 x7.kind,.int .i64 x7.level,.int .i64 x7.value,.slice A16 x7.data.length c16,.slice A17 x7.ports.length c17]) rfl rfl rfl B19 (by kernel_rfl) (by rfl) (by rfl) (by rfl) (fun w22 B23 ho24=>?_)
    have szw22:=ho24.size
    have T:=T.trans (ho24.below (by simp; omega))
    refine RL.nil<|then_n<|wp_seq<|wp_rb rfl<|RQ.y rfl (Y.loadN (cs:=[.int .i64 x7.kind,.int .i64 x7.level,.int .i64 x7.value,.slice A16 x7.data.length c16,.slice A17 x7.ports.length c17]) rfl (by kernel_rfl) (cells5 (beC (blkCell B23 (i:=0) rfl)) (beC (blkCell B23 (i:=1) rfl)) (beC (blkCell B23 (i:=2) rfl)) (beC (blkCell B23 (i:=3) rfl)) (beC (blkCell B23 (i:=4) rfl)))) ?_
    obtain ⟨y25,e26,hm⟩:=bnd hm
    refine RQ.call rfl (am1 rfl) (by kernel_rfl) (v:=.bool y25) (bel (K:=fun _=>True) fun w' hb'=>(c_m_impl_wellFormed x7 _ e26 _ w' (stArg (R:=agentRd) ⟨_,_,_,_,_,_,rfl,⟨SlAt.now intRd_ok h16 (Nat.le_refl _) (Tt T hb'),r16⟩,⟨SlAt.now portRd_ok h17 (Nat.le_refl _) (Tt T hb'),r17⟩⟩)))<|RQ.y rfl (Y.not (b':=(!y25)) rfl rfl)<|RQ.y rfl (Y.move (v:=.bool (!y25)) rfl) ?_
    rcases bcases y25 with c27|c27
    ·replace hm:=cF c27 hm
     iterate 6 refine RQ.skip (wantN (dj:=23) rfl (vbn rfl c27 rfl) rfl) ?_
     refine RQ.y rfl (Y.pick (b:=true) (v:=.bool true) (vbn rfl c27 rfl) rfl)<|RQ.nil ?_
     intro w28 hb29
     have szw28:=hb29.size
     have T:=Tt T hb29
     refine then_n<|cond_t rfl rfl<|wp_seq<|wp_rs rfl<|RQ.y rfl (Y.assign (v:=.bool false) rfl)<|RQ.nil<|then_n<|wp_ret ?_
     obtain rfl:=sj hm
     exact (blk_r (then_r (then_r (hit_r (blk_r (then_r (ret1 rfl rfl rfl ⟨rfl,T⟩)))))))
    replace hm:=cT c27 hm
    refine RQ.y (wantT (dj:=23) rfl (vbn rfl c27 rfl)) (Y.fieldAddr (off:=0) rfl (by kernel_rfl))<|RQ.y (wantT (dj:=23) rfl (vbn rfl c27 rfl)) (Y.load (v:=.int .i64 x7.kind) rfl (by kernel_rfl) (beC (blkCell B23 (i:=0) rfl)))<|RQ.y (wantT (dj:=23) rfl (vbn rfl c27 rfl)) (Y.binI (v:=.bool (x7.kind==1)) rfl rfl rfl)<|RQ.y (wantT (dj:=23) rfl (vbn rfl c27 rfl)) (Y.move (v:=.int .i64 i4) rfl)<|RQ.y (wantT (dj:=23) rfl (vbn rfl c27 rfl)) (Y.binI (v:=.bool (i4==0)) rfl rfl rfl)<|RQ.y (wantT (dj:=23) rfl (vbn rfl c27 rfl)) (Y.beq (c:=((x7.kind==1) != (i4==0))) (by kernel_rfl) rfl rfl (.inr ⟨rfl,rfl⟩))<|RQ.y rfl (Y.pick (b:=false) (v:=.bool ((x7.kind==1) != (i4==0))) (vbn rfl c27 rfl) rfl)<|RQ.nil ?_
    intro w30 hb31
    have szw30:=hb31.size
    have T:=Tt T hb31
    refine then_n ?_
    rcases bcases ((x7.kind==1) != (i4==0)) with c32|c32
    ·replace hm:=cF c32 hm
     refine cond_f rfl (vb rfl c32)<|wp_skip ?_
     refine blk_n (then_n ?_)
     refine wp_rs rfl<|RQ.y rfl (Y.binI s15_1 rfl (binI_add (m:=i4) (by omega)))<|RQ.y rfl (Y.move (v:=.int .i64 (i4+1)) rfl)<|RQ.nil ?_
     exact (then_n ⟨g,_,Nat.lt_succ_self _,rfl,⟨(i4+1),s13_1,s14_1,rfl,(by omega),T,(by rw [← hrec1]; exact hm)⟩⟩)
    replace hm:=cT c32 hm
    refine cond_t rfl (vb rfl c32)<|wp_seq<|wp_rs rfl<|RQ.y rfl (Y.assign (v:=.bool false) rfl)<|RQ.nil<|then_n<|wp_ret ?_
    obtain rfl:=sj hm
    exact (blk_r (then_r (then_r (hit_r (blk_r (then_r (ret1 rfl rfl rfl ⟨rfl,T⟩)))))))
   replace hm:=cT c2 hm
   have pc2:=of_decide_eq_true c2
   refine cond_t rfl (vb rfl c2)<|wp_seq<|wp_rs rfl<|RQ.y rfl (Y.assign (v:=.bool false) rfl)<|RQ.nil<|then_n<|wp_ret ?_
   obtain rfl:=sj hm
   exact (then_r (ret1 rfl rfl rfl ⟨rfl,T⟩))
  replace hm:=cT c1 hm
  have pc1:=of_decide_eq_true c1
  iterate 3 refine RQ.skip (wantN (dj:=8) rfl (vb rfl c1) rfl) ?_
  refine RQ.y rfl (Y.pick (b:=true) (v:=.bool true) (vb rfl c1) rfl)<|RQ.nil<|then_n<|cond_t rfl rfl<|wp_seq<|wp_rs rfl<|RQ.y rfl (Y.assign (v:=.bool false) rfl)<|RQ.nil<|then_n<|wp_ret ?_
  obtain rfl:=sj hm
  exact (then_r (ret1 rfl rfl rfl ⟨rfl,T⟩))
def m_impl_ValidNet (d0:DNet):Option Bool:=
  ((m_impl_areAgents d0.agents).bind fun y6=>(bif y6 then ((m_impl_Net_ports d0).bind fun y11=>((m_slices_ContainsFunc_impl_Port_impl_Port y11 (fun x0=>m_impl_ValidNet_1 x0 d0)).bind fun y18=>some (!y18))) else some false))
set_option maxHeartbeats 2000000 in
theorem c_m_impl_ValidNet (d0:DNet) (r:Bool) (hm:m_impl_ValidNet d0=some r) (v0:Value) (w:World) (hv0:St netRd w v0 d0) :
    Calls Tryz.prog 18 #[v0] w fun e w'=>e=.returned (.bool r)∧Below w.heap.size w w':=by
  obtain ⟨csa0,rfl,⟨A1,n1,c1,rfl,⟨h1,r1⟩⟩⟩:=hv0
  have e1:=h1.len; subst e1
  have q1:=len_le r1
  have T:=Below.refl w.heap.size w
  unfold m_impl_ValidNet at hm
  refine enter 11 Tryz.func18 rfl rfl rfl ?_
  intro f hf
  have s0:f 0=.agg #[.slice A1 d0.agents.length c1]:=hf 0 _ rfl
  refine wp_seq<|wp_rl rfl ?_
  refine RL.box rfl s0 (fun w2 B3 hb4 szw2=>?_)
  replace B3:Blk w2 w.heap.size 29 #[.slice A1 d0.agents.length c1]:=B3
  have GB3:w.heap.size≤w.heap.size:=T.size
  have T:=Tt T hb4
  refine RL.y rfl (Y.assign (v:=.bool false) rfl)<|RL.nil<|then_n<|wp_seq<|wp_seq<|wp_rb rfl<|RQ.y rfl (Y.fieldAddr (off:=0) rfl (by kernel_rfl))<|RQ.y rfl (Y.load (v:=.slice A1 d0.agents.length c1) rfl (by kernel_rfl) (beC (blkCell B3 (i:=0) rfl))) ?_
  obtain ⟨y6,e7,hm⟩:=bnd hm
  refine RQ.call rfl (am1 rfl) (by kernel_rfl) (v:=.bool y6) (bel (K:=fun _=>True) fun w' hb'=>(c_m_impl_areAgents d0.agents _ e7 _ w' (slArg agentRd_ok h1 r1 (Tt T hb'))))<|RQ.y rfl (Y.not (b':=(!y6)) rfl rfl)<|RQ.nil ?_
  intro w8 hb9
  have szw8:=hb9.size
  have B3:=blkT B3 hb9
  have T:=Tt T hb9
  refine then_n ?_
  rcases bcases y6 with c10|c10
  ·replace hm:=cF c10 hm
   refine cond_t rfl (vbn rfl c10 rfl)<|wp_seq<|wp_rs rfl<|RQ.y rfl (Y.assign (v:=.bool false) rfl)<|RQ.nil<|then_n<|wp_ret ?_
   obtain rfl:=sj hm
   exact (then_r (ret1 rfl rfl rfl ⟨rfl,T⟩))
  replace hm:=cT c10 hm
  refine cond_f rfl (vbn rfl c10 rfl)<|wp_skip<|then_n<|wp_seq<|wp_rl rfl ?_
  obtain ⟨y11,e12,hm⟩:=bnd hm
  refine RL.call rfl (am1 rfl) (by kernel_rfl) ((c_m_impl_Net_ports d0 _ e12 _ _ (ptBox (R:=netRd) B3 ⟨_,_,_,rfl,⟨SlAt.now agentRd_ok h1 (Nat.le_refl _) T,r1⟩⟩)).mono ?_)
  rintro _ w16 ⟨⟨v13,rfl,G14⟩,hb17⟩
  refine ⟨_,rfl,?_⟩
  have szw16:=hb17.size
  have T0w16:=T.size
  have No15_ob5:=OwF.ne G14 B3.lt
  have B3:=blkT B3 hb17
  have T:=Tt T hb17
  replace G14:=OwF.mono G14 T0w16
  refine RL.y rfl (Y.makeFunc (vals:=#[.pointer (some ⟨w.heap.size,0,none⟩)]) (am1 rfl)) ?_
  obtain ⟨y18,e19,hm⟩:=bnd hm
  refine RL.call rfl (am2 rfl rfl) (by kernel_rfl) ((c_m_slices_ContainsFunc_impl_Port_impl_Port y11 (fun x0=>m_impl_ValidNet_1 x0 d0) _ e19 _ _ _ _ (OwF.arg fPort G14) (by kernel_rfl) (fun x0 b hx w1 hb1=>Calls.arr (by simp) (c_m_impl_ValidNet_1 x0 d0 _ hx _ w1 (ptBox (R:=netRd) (blkT B3 hb1) ⟨_,_,_,rfl,⟨SlAt.now agentRd_ok h1 (Nat.le_refl _) (Tt T hb1),r1⟩⟩)))).mono ?_)
  rintro _ w20 ⟨rfl,hb21⟩
  refine ⟨_,rfl,?_⟩
  have szw20:=hb21.size
  have B3:=blkT B3 hb21
  have G14:=OwF.below G14 hb21
  have T:=Tt T hb21
  refine RL.y rfl (Y.not (b':=(!y18)) rfl rfl)<|RL.y rfl (Y.assign (v:=.bool (!y18)) rfl)<|RL.nil<|then_n<|wp_ret ?_
  obtain rfl:=sj hm
  exact (ret1 rfl rfl rfl ⟨rfl,T⟩)
end
section
open Go.RowKit
theorem allDef {xs:List Int} : (∀k,k < xs.length→∃x,xs[k]? = some x∧defIx x=true)↔xs.all defIx=true:=by
  rw [List.all_eq_true]
  constructor
  · intro h x hx
    obtain ⟨k,hk,rfl⟩:=List.getElem_of_mem hx
    obtain ⟨y,hy,hd⟩:=h k hk
    rw [List.getElem?_eq_getElem hk] at hy
    injection hy with hy
    rw [hy]; exact hd
  · intro h k hk
    exact ⟨xs[k],List.getElem?_eq_getElem hk,h _ (List.getElem_mem _)⟩
theorem inR_def (x:Int):inR x 0 23=defIx x:=rfl
theorem content_L1 (x:DAgent) (g:Nat) (hg:x.data.length < g):m_spec_l11Content_L1 x m_spec_l11Content_A1 g 0=some (x.data.all defIx):=by
  have h:=allI (L:=m_spec_l11Content_L1 x m_spec_l11Content_A1) (n:=x.data.length) (p:=fun k=>∃y,x.data[k]? = some y∧defIx y=true) (no:=some false) (K:=some true)
    (fun g k hk ⟨y,hy,hd⟩=>by simp [m_spec_l11Content_L1,m_spec_l11Content_B1,hk,getI_nat hy,m_spec_l11Def,inR_def,hd])
    (fun g k hk hn=>by
      have hd:defIx x.data[k] = false:=by
        cases h:defIx x.data[k] with
        |false=>rfl
        |true=>exact absurd ⟨_,List.getElem?_eq_getElem hk,h⟩ hn
      simp [m_spec_l11Content_L1,m_spec_l11Content_B1,hk,getI_lt hk,m_spec_l11Def,inR_def,hd])
    (fun g=>by simp [m_spec_l11Content_L1,m_spec_l11Content_B1,m_spec_l11Content_A1]) g hg
  rw [h]
  by_cases ha:x.data.all defIx=true
  · rw [if_pos (allDef.2 ha),ha]
  · rw [if_neg (fun hh=>ha (allDef.1 hh))]; simp at ha ⊢; exact ha
theorem content_L2 (x:DAgent) (g:Nat) (hg:x.data.length < g):m_spec_l11Content_L2 x m_spec_l11Content_A2 g 0=some (x.data.all defIx):=by
  have h:=allI (L:=m_spec_l11Content_L2 x m_spec_l11Content_A2) (n:=x.data.length) (p:=fun k=>∃y,x.data[k]? = some y∧defIx y=true) (no:=some false) (K:=some true)
    (fun g k hk ⟨y,hy,hd⟩=>by simp [m_spec_l11Content_L2,m_spec_l11Content_B2,hk,getI_nat hy,m_spec_l11Def,inR_def,hd])
    (fun g k hk hn=>by
      have hd:defIx x.data[k] = false:=by
        cases h:defIx x.data[k] with
        |false=>rfl
        |true=>exact absurd ⟨_,List.getElem?_eq_getElem hk,h⟩ hn
      simp [m_spec_l11Content_L2,m_spec_l11Content_B2,hk,getI_lt hk,m_spec_l11Def,inR_def,hd])
    (fun g=>by simp [m_spec_l11Content_L2,m_spec_l11Content_B2,m_spec_l11Content_A2]) g hg
  rw [h]
  by_cases ha:x.data.all defIx=true
  · rw [if_pos (allDef.2 ha),ha]
  · rw [if_neg (fun hh=>ha (allDef.1 hh))]; simp at ha ⊢; exact ha
theorem p_content (x:DAgent):m_spec_l11Content x=some (content x.kind x.value x.data):=by
  have l1:=content_L1 x (x.data.length+1) (by omega)
  have l2:=content_L2 x (x.data.length+1) (by omega)
  have i2:((x.data.length:Int)=2)↔x.data.length=2:=by omega
  have i1:((x.data.length:Int)=1)↔x.data.length=1:=by omega
  have i14:inR (x.data.length:Int) 1 4=(decide (1≤x.data.length) && decide (x.data.length≤4)):=by
    rw [Bool.eq_iff_iff]; simp [inR]; omega
  have hI :∀y,inR y (-2147483648) 2147483647=int32B y:=fun _=>rfl
  have hO:inR x.value 1 6=operB x.value:=rfl
  unfold m_spec_l11Content content
  simp only [hI,hO,l1,l2,m_spec_l11Def,inR_def,Bool.cond_eq_ite,beq_iff_eq,bne_iff_ne,ne_eq,i14,i1,i2]
  by_cases h8:x.kind=8
  · by_cases h0:x.data.length=1
    · obtain ⟨y,hy⟩ :∃y,x.data=[y]:=List.length_eq_one_iff.1 h0
      simp only [h8,hy]
      cases ho:operB x.value <;> simp [getI]
    · simp [h8,h0]
  by_cases h6:x.kind=6
  · by_cases h0:x.data.length=0 <;> simp [h6,h0]
  by_cases h7:x.kind=7
  · by_cases h0:x.data.length=0 <;> simp [h7,h0]
  by_cases h9:x.kind=9
  · by_cases h0:x.data.length=0 <;> simp [h9,h0,inR]
  by_cases h12:x.kind=12
  · by_cases h0:x.data.length=0 <;> simp [h12,h0]
  by_cases h10:x.kind=10
  · by_cases hv:x.value=0 <;> by_cases n1:1≤x.data.length <;> by_cases n4:x.data.length≤4 <;> simp [h10,hv,n1,n4]
  by_cases h11:x.kind=11
  · by_cases hv:x.value=0 <;> by_cases hn:x.data.length=2 <;> simp [h11,hv,hn]
  by_cases hv:x.value=0 <;> by_cases h0:x.data.length=0 <;> simp [h6,h7,h8,h9,h10,h11,h12,hv,h0]
theorem p_fields (x:DAgent) (hp:x.ports.length≤9223372036854775807):m_spec_l11Fields x=some (fieldsN x.kind x.ports.length):=by
  unfold m_spec_l11Fields fieldsN
  simp only [Bool.cond_eq_ite,beq_iff_eq]
  by_cases h:x.kind=9
  · simp [h,ck_ok (n:=(x.ports.length:Int) - 1) (by omega)]
  · simp [h]
theorem p_agent (x:DAgent) (hp:x.ports.length≤9223372036854775807):m_spec_l11Agent x=some (agentOk x):=by
  unfold m_spec_l11Agent agentOk
  simp only [p_fields x hp,Option.bind_some,p_content,Bool.cond_eq_ite,beq_iff_eq,decide_eq_true_eq]
  generalize portsOf x.kind (fieldsN x.kind x.ports.length)=p
  by_cases h1:p > 0
  · have h1':0 < p:=h1
    by_cases h2:(x.ports.length:Int)=p
    · cases h3:allowed x.kind x.level <;> simp [h1,h1',h2]
    · simp [h1,h1',h2]
  · have h1':¬ 0 < p:=h1
    simp [h1,h1']
theorem p_ifields (k:Int) (n:Nat) (hn:n≤9223372036854775807):m_impl_fieldsOf k (n:Int)=some (fieldsN k n):=by
  unfold m_impl_fieldsOf fieldsN
  simp only [Bool.cond_eq_ite,beq_iff_eq]
  by_cases h:k=9
  · simp [h,ck_ok (n:=(n:Int) - 1) (by omega)]
  · simp [h]
theorem p_isDef (n:Int):m_impl_isDefIndex n=some (defIx n):=by
  unfold m_impl_isDefIndex defIx
  simp only [Bool.cond_eq_ite,decide_eq_true_eq]
  by_cases h:0≤n <;> simp [h] <;> omega
theorem p_isInt (n:Int):m_impl_isInt n=some (int32B n):=by
  unfold m_impl_isInt int32B
  simp only [Bool.cond_eq_ite,decide_eq_true_eq]
  by_cases h:-2147483648≤n <;> simp [h]
theorem p_isOper (n:Int):m_impl_isOperator n=some (operB n):=by
  unfold m_impl_isOperator operB
  simp only [Bool.cond_eq_ite,decide_eq_true_eq]
  by_cases h:1≤n <;> simp [h]
theorem p_index_int (d:List Int) (p:Int→Option Bool) (q:Int→Bool) (h :∀x∈d,p x=some (q x)) :∃i,m_slices_IndexFunc_int64_int64 d p=some i∧decide (i ≥ 0)=d.any q:=by
  unfold m_slices_IndexFunc_int64_int64
  by_cases ha :∃k,k < d.length∧∃x,d[k]? = some x∧q x=true
  · obtain ⟨m,⟨hm,x,hx,hq⟩,hl⟩ :∃m,(m < d.length∧∃x,d[m]? = some x∧q x=true)∧∀k,k < m→∀y,d[k]? = some y→q y=false:=by
      obtain ⟨k0,hk0⟩:=ha
      induction k0 using Nat.strongRecOn with
      |_ k0 ih=>
        by_cases hh :∃k,k < k0∧k < d.length∧∃x,d[k]? = some x∧q x=true
        · obtain ⟨k,hk,hk1⟩:=hh; exact ih k hk hk1
        · exact ⟨k0,hk0,fun k hk y hy=>by
            cases hq:q y with
            |false=>rfl
            |true=>exact absurd ⟨k,hk,lt_of_some hy,y,hy,hq⟩ hh⟩
    refine ⟨m,?_,?_⟩
    · refine trajI (n:=m) (fun g k hk=>?_) (fun g=>?_) _ (by omega)
      · have hkl:k < d.length:=by omega
        have hy:=List.getElem?_eq_getElem hkl
        simp [m_slices_IndexFunc_int64_int64_L1,m_slices_IndexFunc_int64_int64_B1,hkl,getI_lt hkl,h _ (List.getElem_mem hkl),hl k hk _ hy]
      · have hmem:=List.mem_of_getElem? hx
        simp [m_slices_IndexFunc_int64_int64_L1,m_slices_IndexFunc_int64_int64_B1,hm,getI_nat hx,h _ hmem,hq]
    · have:d.any q=true:=List.any_eq_true.2 ⟨x,List.mem_of_getElem? hx,hq⟩
      rw [this]; simp
  · refine ⟨-1,?_,?_⟩
    · refine trajI (n:=d.length) (fun g k hk=>?_) (fun g=>?_) _ (by omega)
      · have hq:q d[k] = false:=by
          cases hq:q d[k] with
          |false=>rfl
          |true=>exact absurd ⟨k,hk,_,List.getElem?_eq_getElem hk,hq⟩ ha
        simp [m_slices_IndexFunc_int64_int64_L1,m_slices_IndexFunc_int64_int64_B1,hk,getI_lt hk,h _ (List.getElem_mem hk),hq]
      · simp [m_slices_IndexFunc_int64_int64_L1,m_slices_IndexFunc_int64_int64_B1,m_slices_IndexFunc_int64_int64_A1]
    · have:d.any q=false:=List.any_eq_false.2 fun x hx hq=>by
        obtain ⟨k,hk,rfl⟩:=List.getElem_of_mem hx
        exact ha ⟨k,hk,_,List.getElem?_eq_getElem hk,hq⟩
      rw [this]; simp
theorem p_contains_int (d:List Int) (p:Int→Option Bool) (q:Int→Bool) (h :∀x∈d,p x=some (q x)):m_slices_ContainsFunc_int64_int64 d p=some (d.any q):=by
  obtain ⟨i,h1,h2⟩:=p_index_int d p q h
  simp -implicitDefEqProofs only [m_slices_ContainsFunc_int64_int64,h1,Option.bind_some,h2]
theorem p_wellFormed (x:DAgent) (hp:x.ports.length≤9223372036854775807):m_impl_wellFormed x=some (agentOk x):=by
  have hc:=p_contains_int x.data (fun x0=>m_impl_wellFormed_1 x0) (fun x0=>!defIx x0) (fun y _=>by simp [m_impl_wellFormed_1,p_isDef])
  have hall:x.data.all defIx = !(x.data.any fun x0=>!defIx x0):=by rw [List.not_any_eq_all_not]; simp
  have e0:((x.data.length:Int)==0)=decide (x.data.length=0):=by rw [Bool.eq_iff_iff]; simp
  have i2:((x.data.length:Int)=2)↔x.data.length=2:=by omega
  have i1:((x.data.length:Int)=1)↔x.data.length=1:=by omega
  have g1:((x.data.length:Int) ≥ 1)↔1≤x.data.length:=by omega
  have g4:((x.data.length:Int)≤4)↔x.data.length≤4:=by omega
  have ip:((x.ports.length:Int)=0)↔x.ports.length=0:=by omega
  unfold m_impl_wellFormed agentOk
  simp only [p_ifields _ _ hp,Option.bind_some,hc,p_isInt,p_isOper,p_isDef,content,hall,e0,Bool.cond_eq_ite,beq_iff_eq,bne_iff_ne,ne_eq,decide_eq_true_eq,i1,i2,ip,g1,g4,ge_iff_le]
  generalize hp0:portsOf x.kind (fieldsN x.kind x.ports.length)=p
  by_cases h0:x.ports.length=0
  · by_cases h1:0 < p
    · have:¬ (x.ports.length:Int)=p:=by omega
      simp [h0]; intro h2; omega
    · simp [h0,h1]
  by_cases h2:p=(x.ports.length:Int)
  case neg=>
    have h2':¬ (x.ports.length:Int)=p:=fun e=>h2 e.symm
    simp [h0,h2,h2']
  have hpos:0 < x.ports.length:=by omega
  have v4:x.value < 4↔x.value≤3:=by omega
  subst h2
  generalize hany:(x.data.any fun x0=>!defIx x0)=anyb
  cases h3:allowed x.kind x.level
  · simp [h0]
  by_cases k6:x.kind=6
  · cases hi:int32B x.value <;> simp [h0,hpos,k6]
  by_cases k7:x.kind=7
  · cases hi:operB x.value <;> simp [h0,hpos,k7]
  by_cases k8:x.kind=8
  · by_cases hd:x.data.length=1
    · obtain ⟨y,hy⟩ :∃y,x.data=[y]:=List.length_eq_one_iff.1 hd
      cases hi:operB x.value <;> simp [h0,hpos,k8,hy,getI]
    · cases hi:operB x.value <;> simp [h0,hpos,k8,hd]
  by_cases k9:x.kind=9
  · by_cases v0:0≤x.value <;> by_cases v3:x.value≤3
    all_goals simp [h0,hpos,k9,v0,v3,v4]
  by_cases k10:x.kind=10
  · by_cases v0:x.value=0 <;> by_cases n1:1≤x.data.length <;> by_cases n4:x.data.length≤4 <;> simp [h0,hpos,k10,v0,n1,n4]
  by_cases k11:x.kind=11
  · by_cases v0:x.value=0 <;> by_cases n2:x.data.length=2 <;> simp [h0,hpos,k11,v0,n2]
  by_cases k12:x.kind=12
  · cases hi:defIx x.value <;> simp [h0,hpos,k12]
  by_cases v0:x.value=0 <;> simp [h0,hpos,k6,k7,k8,k9,k10,k11,k12,v0]
theorem agentsOk_iff {xs:List DAgent} : agentsOk xs=true↔AgentsOk xs:=by unfold agentsOk; simp
theorem agents_p {xs:List DAgent} : (∀k,k < xs.length→∃x,xs[k]? = some x∧agentOk x=true∧decide (x.kind=1)=decide (k=0))↔∀(i:Nat) (x:DAgent),xs[i]? = some x→agentOk x=true∧decide (x.kind=1)=decide (i=0):=by
  constructor
  · intro h i x hx
    obtain ⟨y,hy,h1⟩:=h i (lt_of_some hx)
    rw [hx] at hy; injection hy with hy; subst hy; exact h1
  · intro h k hk
    exact ⟨xs[k],List.getElem?_eq_getElem hk,h k _ (List.getElem?_eq_getElem hk)⟩
theorem kind_ne (k:Int) (i:Nat):((k==1) != ((i:Int)==0)) = !(decide (decide (k=1)=decide (i=0))):=by
  have e1:(k==1)=decide (k=1):=by rw [Bool.eq_iff_iff]; simp
  have e2:((i:Int)==0)=decide (i=0):=by rw [Bool.eq_iff_iff]; simp
  rw [e1,e2]
  cases decide (k=1) <;> cases decide (i=0) <;> rfl
open Classical in
theorem p_agents (xs:List DAgent) (hb :∀x∈xs,x.ports.length≤9223372036854775807):m_spec_l11Agents xs=some (agentsOk xs):=by
  unfold m_spec_l11Agents
  by_cases hl:1≤xs.length∧xs.length≤600
  · have h0:inR (xs.length:Int) 1 600=true:=by simp [inR]; omega
    rw [h0,cond_true]
    have h:=allI (L:=m_spec_l11Agents_L1 xs m_spec_l11Agents_A1) (n:=xs.length) (p:=fun k=>∃x,xs[k]? = some x∧agentOk x=true∧decide (x.kind=1)=decide (k=0)) (no:=some false) (K:=some true)
      (fun g k hk ⟨x,hx,h1,h2⟩=>by
        have hm:=hb x (List.mem_of_getElem? hx)
        simp [m_spec_l11Agents_L1,m_spec_l11Agents_B1,hk,getI_nat hx,p_agent x hm,h1,kind_ne,h2])
      (fun g k hk hn=>by
        have hx:=List.getElem?_eq_getElem hk
        have hm:=hb _ (List.getElem_mem hk)
        cases h1:agentOk xs[k] with
        |false=>simp [m_spec_l11Agents_L1,m_spec_l11Agents_B1,hk,getI_lt hk,p_agent _ hm,h1]
        |true=>
          have h2:¬ decide (xs[k].kind=1)=decide (k=0):=fun h2=>hn ⟨_,hx,h1,h2⟩
          simp -implicitDefEqProofs only [m_spec_l11Agents_L1,m_spec_l11Agents_B1,dlt hk,cond_true,getI_lt hk,Option.bind_some,p_agent _ hm,h1,kind_ne,decide_eq_false h2,Bool.not_false,Bool.not_true,Bool.or_true,Bool.false_or,cond_false])
      (fun g=>by simp [m_spec_l11Agents_L1,m_spec_l11Agents_B1,m_spec_l11Agents_A1]) (xs.length+1) (by omega)
    rw [h]
    by_cases ha :∀k,k < xs.length→∃x,xs[k]? = some x∧agentOk x=true∧decide (x.kind=1)=decide (k=0)
    · rw [if_pos ha,agentsOk_iff.2 ⟨hl.1,hl.2,agents_p.1 ha⟩]
    · rw [if_neg ha]
      cases hc:agentsOk xs with
      |false=>rfl
      |true=>exact absurd (agents_p.2 (agentsOk_iff.1 hc).2.2) ha
  · have h0:inR (xs.length:Int) 1 600=false:=by simp [inR]; omega
    rw [h0,cond_false]
    cases hc:agentsOk xs with
    |false=>rfl
    |true=>exact absurd ⟨(agentsOk_iff.1 hc).1,(agentsOk_iff.1 hc).2.1⟩ hl
open Classical in
theorem p_areAgents (xs:List DAgent) (hb :∀x∈xs,x.ports.length≤9223372036854775807):m_impl_areAgents xs=some (agentsOk xs):=by
  unfold m_impl_areAgents
  by_cases hl:1≤xs.length∧xs.length≤600
  · have h0:decide ((xs.length:Int) < 1)=false:=by simp; omega
    have h0':decide ((xs.length:Int) > 600)=false:=by simp; omega
    rw [h0,h0',cond_false,cond_false]
    have h:=allI (L:=m_impl_areAgents_L1 xs m_impl_areAgents_A1) (n:=xs.length) (p:=fun k=>∃x,xs[k]? = some x∧agentOk x=true∧decide (x.kind=1)=decide (k=0)) (no:=some false) (K:=some true)
      (fun g k hk ⟨x,hx,h1,h2⟩=>by
        have hm:=hb x (List.mem_of_getElem? hx)
        simp [m_impl_areAgents_L1,m_impl_areAgents_B1,hk,getI_nat hx,p_wellFormed x hm,h1,kind_ne,h2])
      (fun g k hk hn=>by
        have hx:=List.getElem?_eq_getElem hk
        have hm:=hb _ (List.getElem_mem hk)
        cases h1:agentOk xs[k] with
        |false=>simp [m_impl_areAgents_L1,m_impl_areAgents_B1,hk,getI_lt hk,p_wellFormed _ hm,h1]
        |true=>
          have h2:¬ decide (xs[k].kind=1)=decide (k=0):=fun h2=>hn ⟨_,hx,h1,h2⟩
          simp -implicitDefEqProofs only [m_impl_areAgents_L1,m_impl_areAgents_B1,dlt hk,cond_true,getI_lt hk,Option.bind_some,p_wellFormed _ hm,h1,kind_ne,decide_eq_false h2,Bool.not_false,Bool.not_true,Bool.or_true,Bool.false_or,cond_false])
      (fun g=>by simp [m_impl_areAgents_L1,m_impl_areAgents_B1,m_impl_areAgents_A1]) (xs.length+1) (by omega)
    rw [h]
    by_cases ha :∀k,k < xs.length→∃x,xs[k]? = some x∧agentOk x=true∧decide (x.kind=1)=decide (k=0)
    · rw [if_pos ha,agentsOk_iff.2 ⟨hl.1,hl.2,agents_p.1 ha⟩]
    · rw [if_neg ha]
      cases hc:agentsOk xs with
      |false=>rfl
      |true=>exact absurd (agents_p.2 (agentsOk_iff.1 hc).2.2) ha
  · have hc:agentsOk xs=false:=by
      cases hc:agentsOk xs with
      |false=>rfl
      |true=>exact absurd ⟨(agentsOk_iff.1 hc).1,(agentsOk_iff.1 hc).2.1⟩ hl
    by_cases h1:xs.length < 1
    · have h0:decide ((xs.length:Int) < 1)=true:=by simp; omega
      rw [h0,cond_true,hc]
    · have h0:decide ((xs.length:Int) < 1)=false:=by simp; omega
      have h0':decide ((xs.length:Int) > 600)=true:=by simp; omega
      rw [h0,h0',cond_false,cond_true,hc]
/-- No list is longer than what a net of the laws may hold. -/
def Small (xs:List DAgent):Prop:=szAgentS xs≤1048576
theorem Small.len {xs:List DAgent} (h:Small xs):xs.length≤1048576:=by unfold Small szAgentS at h; omega
theorem sum_mem {α:Type} {f:α→Nat} {xs:List α} {x:α} (h:x∈xs):f x≤(xs.map f).sum:=by
  induction xs with
  |nil=>cases h
  |cons y ys ih=>
    rcases List.mem_cons.1 h with rfl|h
    · simp
    · have:=ih h; simp; omega
theorem Small.ports {xs:List DAgent} (h:Small xs) {x:DAgent} (hx:x∈xs):x.ports.length≤1048576:=by
  have:=sum_mem (f:=szAgent) hx
  have e:szAgent x=x.data.length+x.ports.length:=rfl
  unfold Small szAgentS at h; omega
theorem Small.data {xs:List DAgent} (h:Small xs) {x:DAgent} (hx:x∈xs):x.data.length≤1048576:=by
  have:=sum_mem (f:=szAgent) hx
  have e:szAgent x=x.data.length+x.ports.length:=rfl
  unfold Small szAgentS at h; omega
theorem Small.ports' {xs:List DAgent} (h:Small xs) :∀x∈xs,x.ports.length≤9223372036854775807:=fun x hx=>by have:=h.ports hx; omega
theorem portsFrom_len :∀(i:Nat) (xs:List DAgent),(portsFrom i xs).length≤(xs.map szAgent).sum
  |_,[]=>by simp [portsFrom]
  |i,x :: xs=>by have:=portsFrom_len (i+1) xs; simp [portsFrom,agentPorts,szAgent]; omega
theorem Small.all {xs:List DAgent} (h:Small xs):(allPorts xs).length≤1048576:=by
  have:=portsFrom_len 0 xs
  unfold Small szAgentS at h; unfold allPorts; omega
theorem agentAt_nat {xs:List DAgent} {k:Nat} {x:DAgent} (h:xs[k]? = some x):agentAt xs (k:Int)=x:=by simp [agentAt,List.getD,h]
theorem p_port (xs:List DAgent) (p:DPort) (h:Small xs):m_spec_l11Port xs p=some (hasPort xs p):=by
  unfold m_spec_l11Port
  have hl:=h.len
  rw [ck_ok (by omega),Option.bind_some]
  by_cases ha:0≤p.agent∧p.agent < xs.length
  · obtain ⟨k,hk⟩:=Int.eq_ofNat_of_zero_le ha.1
    have hkl:k < xs.length:=by omega
    have h0:inR p.agent 0 ((xs.length:Int) - 1)=true:=by simp [inR]; omega
    have hx:=List.getElem?_eq_getElem hkl
    have hp:=h.ports (List.getElem_mem hkl)
    rw [h0,cond_true,hk,getI_nat hx,Option.bind_some,ck_ok (by omega),Option.bind_some]
    congr 1
    rw [Bool.eq_iff_iff]
    simp [inR,hasPort,hk,agentAt_nat hx]
    omega
  · have h0:inR p.agent 0 ((xs.length:Int) - 1)=false:=by simp [inR]; omega
    rw [h0,cond_false]
    congr 1
    simp [hasPort]
    omega
theorem p_hasPort (xs:List DAgent) (p:DPort):m_impl_hasPort xs p=some (hasPort xs p):=by
  unfold m_impl_hasPort
  by_cases h1:0≤p.agent
  · by_cases h2:p.agent < xs.length
    · by_cases h3:0≤p.slot
      · obtain ⟨k,hk⟩:=Int.eq_ofNat_of_zero_le h1
        have hkl:k < xs.length:=by omega
        have hx:=List.getElem?_eq_getElem hkl
        simp [h3,hk,hkl,hasPort,getI_nat hx,agentAt_nat hx]
      · simp [h1,h2,h3,hasPort]
    · simp [h1,h2,hasPort]
  · simp [h1,hasPort]
theorem p_peer {xs:List DAgent} {p:DPort} (h:hasPort xs p=true):m_impl_Net_peer ⟨xs⟩ p=some (peer xs p):=by
  obtain ⟨i,k,x,rfl,hx,hk,ha⟩:=hasPort_at h
  have hy:=List.getElem?_eq_getElem hk
  simp [m_impl_Net_peer,getI_nat hx,getI_nat hy,peer_of hx hy]
theorem port_eq (q p:DPort):(q.agent==p.agent && q.slot==p.slot)=decide (q=p):=by
  rw [Bool.eq_iff_iff]
  cases q; cases p; simp
theorem badPort_at {xs:List DAgent} {i k:Nat} {x:DAgent} {q:DPort} (hx:xs[i]? = some x) (hq:x.ports[k]? = some q):badPort xs ⟨i,k⟩=(decide (q=⟨i,k⟩)||!hasPort xs q||!decide (peer xs q=⟨i,k⟩)):=by
  unfold badPort; rw [peer_of hx hq]
open Classical in
theorem p_ok_inner {xs:List DAgent} (hs:Small xs) {i:Nat} {x:DAgent} (hx:xs[i]? = some x) (rec:Int→Option Bool) (g:Nat) (hg:x.ports.length < g) :
    ((∀k,k < x.ports.length→badPort xs ⟨i,k⟩=false)∧m_spec_l11Ok_L2 ⟨xs⟩ (i:Int) x (m_spec_l11Ok_A2 rec (i:Int)) g 0=rec ((i:Int)+1)) ∨ ((¬∀k,k < x.ports.length→badPort xs ⟨i,k⟩=false)∧m_spec_l11Ok_L2 ⟨xs⟩ (i:Int) x (m_spec_l11Ok_A2 rec (i:Int)) g 0=some false):=by
  have hi:=lt_of_some hx
  have hl:=hs.len
  refine (allO (L:=m_spec_l11Ok_L2 ⟨xs⟩ (i:Int) x (m_spec_l11Ok_A2 rec (i:Int))) (n:=x.ports.length) (p:=fun k=>badPort xs ⟨i,k⟩=false) (no:=some false) (K:=rec ((i:Int)+1)) ?_ ?_ ?_ g hg)
  · intro g k hk hb
    have hq:=List.getElem?_eq_getElem hk
    rw [badPort_at hx hq] at hb
    simp only [Bool.or_eq_false_iff,Bool.not_eq_false',decide_eq_false_iff_not,decide_eq_true_eq] at hb
    obtain ⟨⟨h1,h2⟩,h3⟩:=hb
    obtain ⟨i2,k2,x2,he,hx2,hk2,_⟩:=hasPort_at h2
    have hq2:=List.getElem?_eq_getElem hk2
    have h1':(x.ports[k].agent==(i:Int) && x.ports[k].slot==(k:Int))=false:=by
      have:=port_eq x.ports[k] ⟨i,k⟩
      simp only at this
      rw [this]; simpa using h1
    have h3':(x2.ports[k2].agent==(i:Int) && x2.ports[k2].slot==(k:Int))=true:=by
      have:=port_eq x2.ports[k2] ⟨i,k⟩
      simp only at this
      rw [this]
      rw [he,peer_of hx2 hq2] at h3
      simpa using h3
    have ha:x.ports[k].agent=(i2:Int):=by rw [he]
    have hsl:x.ports[k].slot=(k2:Int):=by rw [he]
    have e1:getI xs x.ports[k].agent=some x2:=by rw [ha]; exact getI_nat hx2
    have e2:getI x2.ports x.ports[k].slot=some x2.ports[k2]:=by rw [hsl]; exact getI_nat hq2
    simp -implicitDefEqProofs only [m_spec_l11Ok_L2,m_spec_l11Ok_B2,dlt hk,cond_true,getI_lt hk,Option.bind_some,h1',cond_false,p_port xs _ hs,h2,e1,e2,h3']
  · intro g k hk hb
    have hq:=List.getElem?_eq_getElem hk
    have hb:badPort xs ⟨i,k⟩=true:=by simpa using hb
    rw [badPort_at hx hq] at hb
    have hE:=port_eq x.ports[k] ⟨i,k⟩
    simp only at hE
    by_cases h1:x.ports[k] = (⟨i,k⟩:DPort)
    · have:(x.ports[k].agent==(i:Int) && x.ports[k].slot==(k:Int))=true:=by rw [hE]; simpa using h1
      simp -implicitDefEqProofs only [m_spec_l11Ok_L2,m_spec_l11Ok_B2,dlt hk,cond_true,getI_lt hk,Option.bind_some,this]
    · have h1':(x.ports[k].agent==(i:Int) && x.ports[k].slot==(k:Int))=false:=by rw [hE]; simpa using h1
      cases h2:hasPort xs x.ports[k] with
      |false=>simp -implicitDefEqProofs only [m_spec_l11Ok_L2,m_spec_l11Ok_B2,dlt hk,cond_true,getI_lt hk,Option.bind_some,h1',cond_false,p_port xs _ hs,h2]
      |true=>
        have h3:¬ peer xs x.ports[k] = (⟨i,k⟩:DPort):=by
          intro h3; rw [h2,h3] at hb; simp [h1] at hb
        obtain ⟨i2,k2,x2,he,hx2,hk2,_⟩:=hasPort_at h2
        have hq2:=List.getElem?_eq_getElem hk2
        have h3':(x2.ports[k2].agent==(i:Int) && x2.ports[k2].slot==(k:Int))=false:=by
          have:=port_eq x2.ports[k2] ⟨i,k⟩
          simp only at this
          rw [this]
          rw [he,peer_of hx2 hq2] at h3
          simpa using h3
        have ha:x.ports[k].agent=(i2:Int):=by rw [he]
        have hsl:x.ports[k].slot=(k2:Int):=by rw [he]
        have e1:getI xs x.ports[k].agent=some x2:=by rw [ha]; exact getI_nat hx2
        have e2:getI x2.ports x.ports[k].slot=some x2.ports[k2]:=by rw [hsl]; exact getI_nat hq2
        simp -implicitDefEqProofs only [m_spec_l11Ok_L2,m_spec_l11Ok_B2,dlt hk,cond_true,getI_lt hk,Option.bind_some,h1',cond_false,p_port xs _ hs,h2,e1,e2,h3']
  · intro g
    simp -implicitDefEqProofs only [m_spec_l11Ok_L2,m_spec_l11Ok_B2,dge,cond_false,m_spec_l11Ok_A2]
    rw [ck_ok (by omega),Option.bind_some]
theorem portsOk_p {xs:List DAgent} : (∀i,i < xs.length→∃x,xs[i]? = some x∧∀k,k < x.ports.length→badPort xs ⟨i,k⟩=false)↔PortsOk xs:=by
  constructor
  · intro h i x hx k hk
    obtain ⟨y,hy,h1⟩:=h i (lt_of_some hx)
    rw [hx] at hy; injection hy with hy; subst hy; exact h1 k hk
  · intro h i hi
    exact ⟨xs[i],List.getElem?_eq_getElem hi,fun k hk=>h i _ (List.getElem?_eq_getElem hi) k hk⟩
theorem validNet_iff {x:DNet} : validNet x=true↔AgentsOk x.agents∧PortsOk x.agents:=by unfold validNet; simp
open Classical in
theorem p_ok (d:DNet) (hs:Small d.agents):m_spec_l11Ok d=some (validNet d):=by
  obtain ⟨xs⟩:=d
  have hs:Small xs:=hs
  unfold m_spec_l11Ok
  rw [p_agents xs hs.ports',Option.bind_some]
  cases hag:agentsOk xs with
  |false=>
    rw [cond_false]
    cases hv:validNet ⟨xs⟩ with
    |false=>rfl
    |true=>rw [agentsOk_iff.2 (validNet_iff.1 hv).1] at hag; cases hag
  |true=>
    rw [cond_true]
    have h:=allO (L:=m_spec_l11Ok_L1 ⟨xs⟩ m_spec_l11Ok_A1) (n:=xs.length) (p:=fun i=>∃x,xs[i]? = some x∧∀k,k < x.ports.length→badPort xs ⟨i,k⟩=false) (no:=some false) (K:=some true)
      (fun g i hi ⟨x,hx,hp⟩=>by
        simp -implicitDefEqProofs only [m_spec_l11Ok_L1,m_spec_l11Ok_B1,dlt hi,cond_true,getI_nat hx,Option.bind_some]
        rcases p_ok_inner hs hx (m_spec_l11Ok_L1 ⟨xs⟩ m_spec_l11Ok_A1 g) _ (Nat.lt_succ_self _) with ⟨_,h⟩|⟨hn,_⟩
        · exact h
        · exact absurd hp hn)
      (fun g i hi hn=>by
        have hx:=List.getElem?_eq_getElem hi
        simp -implicitDefEqProofs only [m_spec_l11Ok_L1,m_spec_l11Ok_B1,dlt hi,cond_true,getI_lt hi,Option.bind_some]
        rcases p_ok_inner hs hx (m_spec_l11Ok_L1 ⟨xs⟩ m_spec_l11Ok_A1 g) _ (Nat.lt_succ_self _) with ⟨hp,_⟩|⟨_,h⟩
        · exact absurd ⟨_,hx,hp⟩ hn
        · exact h)
      (fun g=>by simp -implicitDefEqProofs only [m_spec_l11Ok_L1,m_spec_l11Ok_B1,dge,cond_false,m_spec_l11Ok_A1]) (xs.length+1) (Nat.lt_succ_self _)
    rcases h with ⟨ha,h⟩|⟨ha,h⟩
    · rw [validNet_iff.2 ⟨agentsOk_iff.1 hag,portsOk_p.1 ha⟩]; exact h
    · cases hv:validNet ⟨xs⟩ with
      |false=>exact h
      |true=>exact absurd (portsOk_p.2 (validNet_iff.1 hv).2) ha
theorem agentPorts_len (i:Nat) (x:DAgent):(agentPorts i x).length=x.ports.length:=by simp [agentPorts]
theorem p_ports_inner {i:Nat} {x:DAgent} (rec:List DPort→Int→Option (List DPort)) (acc:List DPort) (hb:acc.length+x.ports.length≤4294967296) (hi:(i:Int) < 9223372036854775807) (g:Nat) (hg:x.ports.length < g) :
    m_impl_Net_ports_L2 (i:Int) x (m_impl_Net_ports_A2 rec (i:Int)) g acc 0=rec (acc ++ agentPorts i x) ((i:Int)+1):=by
  have h:=traj (L:=fun g (s:List DPort × Int)=>m_impl_Net_ports_L2 (i:Int) x (m_impl_Net_ports_A2 rec (i:Int)) g s.1 s.2) (st:=fun k=>(acc ++ (List.range k).map (fun (j:Nat)=>(⟨i,j⟩:DPort)),(k:Int))) (n:=x.ports.length) (r:=rec (acc ++ agentPorts i x) ((i:Int)+1))
    (fun g k hk=>by
      simp -implicitDefEqProofs only [m_impl_Net_ports_L2,m_impl_Net_ports_B2,dlt hk,cond_true]
      rw [mustP_ok (by simp; omega),Option.bind_some]
      rw [List.range_succ,List.map_append,List.append_assoc]
      simp only [List.map_cons,List.map_nil,Int.natCast_add,Int.cast_ofNat_Int])
    (fun g=>by
      simp -implicitDefEqProofs only [m_impl_Net_ports_L2,m_impl_Net_ports_B2,dge,cond_false,m_impl_Net_ports_A2]
      rw [ck_ok (by omega),Option.bind_some,agentPorts]) g hg
  simpa using h
theorem p_ports (d:DNet) (hs:Small d.agents):m_impl_Net_ports d=some (allPorts d.agents):=by
  obtain ⟨xs⟩:=d
  have hs:Small xs:=hs
  have hl:=hs.len
  have ha:=hs.all
  unfold m_impl_Net_ports
  have h:=traj (L:=fun g (s:List DPort × Int)=>m_impl_Net_ports_L1 ⟨xs⟩ m_impl_Net_ports_A1 g s.1 s.2) (st:=fun k=>(allPorts (xs.take k),(k:Int))) (n:=xs.length) (r:=some (allPorts xs))
    (fun g k hk=>by
      have hx:=List.getElem?_eq_getElem hk
      have hlen:(allPorts (xs.take (k+1))).length≤(allPorts xs).length:=by
        have:allPorts xs=portsFrom 0 (xs.take (k+1) ++ xs.drop (k+1)):=by rw [List.take_append_drop]; rfl
        rw [this,portsFrom_append,List.length_append]
        exact Nat.le_add_right _ _
      rw [allPorts_take hx,List.length_append,agentPorts_len] at hlen
      simp -implicitDefEqProofs only [m_impl_Net_ports_L1,m_impl_Net_ports_B1,dlt hk,cond_true,getI_lt hk,Option.bind_some]
      rw [p_ports_inner (m_impl_Net_ports_L1 ⟨xs⟩ m_impl_Net_ports_A1 g) _ (by omega) (by omega) _ (Nat.lt_succ_self _),allPorts_take hx]
      simp only [Int.natCast_add,Int.cast_ofNat_Int])
    (fun g=>by
      simp -implicitDefEqProofs only [m_impl_Net_ports_L1,m_impl_Net_ports_B1,dge,cond_false,m_impl_Net_ports_A1,List.take_length]) (xs.length+1) (Nat.lt_succ_self _)
  exact h
theorem p_index_port (d:List DPort) (p:DPort→Option Bool) (q:DPort→Bool) (h :∀x∈d,p x=some (q x)) :∃i,m_slices_IndexFunc_impl_Port_impl_Port d p=some i∧decide (i ≥ 0)=d.any q:=by
  unfold m_slices_IndexFunc_impl_Port_impl_Port
  by_cases ha :∃k,k < d.length∧∃x,d[k]? = some x∧q x=true
  · obtain ⟨m,⟨hm,x,hx,hq⟩,hl⟩ :∃m,(m < d.length∧∃x,d[m]? = some x∧q x=true)∧∀k,k < m→∀y,d[k]? = some y→q y=false:=by
      obtain ⟨k0,hk0⟩:=ha
      induction k0 using Nat.strongRecOn with
      |_ k0 ih=>
        by_cases hh :∃k,k < k0∧k < d.length∧∃x,d[k]? = some x∧q x=true
        · obtain ⟨k,hk,hk1⟩:=hh; exact ih k hk hk1
        · exact ⟨k0,hk0,fun k hk y hy=>by
            cases hq:q y with
            |false=>rfl
            |true=>exact absurd ⟨k,hk,lt_of_some hy,y,hy,hq⟩ hh⟩
    refine ⟨m,?_,?_⟩
    · refine trajI (n:=m) (fun g k hk=>?_) (fun g=>?_) _ (by omega)
      · have hkl:k < d.length:=by omega
        have hy:=List.getElem?_eq_getElem hkl
        simp [m_slices_IndexFunc_impl_Port_impl_Port_L1,m_slices_IndexFunc_impl_Port_impl_Port_B1,hkl,getI_lt hkl,h _ (List.getElem_mem hkl),hl k hk _ hy]
      · have hmem:=List.mem_of_getElem? hx
        simp [m_slices_IndexFunc_impl_Port_impl_Port_L1,m_slices_IndexFunc_impl_Port_impl_Port_B1,hm,getI_nat hx,h _ hmem,hq]
    · have:d.any q=true:=List.any_eq_true.2 ⟨x,List.mem_of_getElem? hx,hq⟩
      rw [this]; simp
  · refine ⟨-1,?_,?_⟩
    · refine trajI (n:=d.length) (fun g k hk=>?_) (fun g=>?_) _ (by omega)
      · have hq:q d[k] = false:=by
          cases hq:q d[k] with
          |false=>rfl
          |true=>exact absurd ⟨k,hk,_,List.getElem?_eq_getElem hk,hq⟩ ha
        simp [m_slices_IndexFunc_impl_Port_impl_Port_L1,m_slices_IndexFunc_impl_Port_impl_Port_B1,hk,getI_lt hk,h _ (List.getElem_mem hk),hq]
      · simp [m_slices_IndexFunc_impl_Port_impl_Port_L1,m_slices_IndexFunc_impl_Port_impl_Port_B1,m_slices_IndexFunc_impl_Port_impl_Port_A1]
    · have:d.any q=false:=List.any_eq_false.2 fun x hx hq=>by
        obtain ⟨k,hk,rfl⟩:=List.getElem_of_mem hx
        exact ha ⟨k,hk,_,List.getElem?_eq_getElem hk,hq⟩
      rw [this]; simp
theorem p_contains_port (d:List DPort) (p:DPort→Option Bool) (q:DPort→Bool) (h :∀x∈d,p x=some (q x)):m_slices_ContainsFunc_impl_Port_impl_Port d p=some (d.any q):=by
  obtain ⟨i,h1,h2⟩:=p_index_port d p q h
  simp -implicitDefEqProofs only [m_slices_ContainsFunc_impl_Port_impl_Port,h1,Option.bind_some,h2]
theorem p_valid1 {xs:List DAgent} {p:DPort} (h:hasPort xs p=true):m_impl_ValidNet_1 p ⟨xs⟩=some (badPort xs p):=by
  unfold m_impl_ValidNet_1 badPort
  rw [p_peer h,Option.bind_some,port_eq]
  by_cases h1:peer xs p=p
  · simp [h1]
  · cases h2:hasPort xs (peer xs p) with
    |false=>simp [h1,p_hasPort,h2]
    |true=>simp [h1,p_hasPort,h2,p_peer h2,port_eq]
theorem p_valid (d:DNet) (hs:Small d.agents):m_impl_ValidNet d=some (validNet d):=by
  obtain ⟨xs⟩:=d
  have hs:Small xs:=hs
  unfold m_impl_ValidNet
  rw [p_areAgents xs hs.ports',Option.bind_some]
  cases hag:agentsOk xs with
  |false=>
    rw [cond_false]
    cases hv:validNet ⟨xs⟩ with
    |false=>rfl
    |true=>rw [agentsOk_iff.2 (validNet_iff.1 hv).1] at hag; cases hag
  |true=>
    rw [cond_true,p_ports _ hs,Option.bind_some]
    have hc:=p_contains_port (allPorts xs) (fun x0=>m_impl_ValidNet_1 x0 ⟨xs⟩) (badPort xs) (fun p hp=>by
      obtain ⟨j,x,k,h1,h2,rfl⟩:=mem_portsFrom.1 hp
      have hh:=hasPort_of h1 h2
      simp only [Nat.zero_add]
      exact p_valid1 hh)
    rw [hc,Option.bind_some]
    congr 1
    rw [Bool.eq_iff_iff,validNet_iff,Bool.not_eq_true',any_allPorts]
    exact ⟨fun h=>⟨agentsOk_iff.1 hag,h⟩,fun h=>h.2⟩
end
section
open Go.RowKit
theorem cutRest {P:Program} {c1 rest:Code} {Q:Exit→Act→World→Prop} {n:Nat} {f:Nat→Value} {w:World} (K:(Nat→Value)→World→Prop) (hK :∀f' w',K f' w'→rest.wp P Q (Fr n f') w')
    (hreg:(∀f' w',K f' w'→rest.wp P Q (Fr n f') w')→(Code.seq c1 rest).wp P Q (Fr n f) w):(Code.seq c1 rest).wp P Q (Fr n f) w:=hreg hK
end
end Go.Proofs.YtkfmlehhbanopaaGreatDoor
