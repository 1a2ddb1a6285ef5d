/- Lemmas of the proof of ReadNet, part 4. No condition. -/
import Derived.Test.YtkfmlehhbanopaaGreatDoorZReadNet3
namespace Go.Proofs.YtkfmlehhbanopaaGreatDoor
set_option linter.unusedVariables false
set_option linter.unusedSimpArgs false
section
open Go.RowKit
set_option maxHeartbeats 1000000 in
theorem eqAgent_v (v u:Value) (x y:DAgent) (w:World) {B B':Nat} (h:RdT agentRd w B v x) (h':RdT agentRd w B' u y) (hB:B≤w.heap.size) (hB':B'≤w.heap.size) :
    Calls Tryz.prog 40 #[v,u] w fun e w'=>e=.returned (.bool (decide (x=y)))∧Below w.heap.size w w':=by
  obtain ⟨cs,rfl,A1,n1,c1,A2,n2,c2,rfl,⟨h1,r1⟩,⟨h2,r2⟩⟩:=h
  obtain ⟨cs,rfl,A1',n1',c1',A2',n2',c2',rfl,⟨h1',r1'⟩,⟨h2',r2'⟩⟩:=h'
  have hb :∀o1 o2,Below w.heap.size w ((w.alloc o1).alloc o2):=fun o1 o2=>((Below.refl _ _).alloc (Nat.le_refl _) _).alloc (by simp) _
  by_cases e0:x.kind=y.kind
  · have f0:(x.kind != y.kind)=false:=by simp [e0]
    by_cases e1:x.level=y.level
    · have f1:(x.level != y.level)=false:=by simp [e1]
      by_cases e2:x.value=y.value
      · have f2:(x.value != y.value)=false:=by simp [e2]
        by_cases e3:x.data=y.data
        · have f3:eqL x.data y.data=true:=decide_eq_true e3
          by_cases e4:x.ports=y.ports
          · have f4:eqL x.ports y.ports=true:=decide_eq_true e4
            have He:Hid (decide (x=y)=true):=decide_eq_true (by cases x; cases y; simp_all)
            clear e0 e1 e2 e3 e4
            go_enter Tryz.func40,Tryz.ntmps40
            go_wp2_with fail
            refine (eqInt64S_v _ _ x.data y.data _ (B:=B) (B':=B') ⟨A1,n1,c1,rfl,h1.below intRd_ok ((hb _ _).mono hB),r1⟩ ⟨A1',n1',c1',rfl,h1'.below intRd_ok ((hb _ _).mono hB'),r1'⟩ (Nat.le_trans hB (hb _ _).size) (Nat.le_trans hB' (hb _ _).size)).mono ?_
            rintro e w1 ⟨rfl,q1⟩
            have T:=(hb _ _).trans (q1.mono (hb _ _).size)
            have B1:=blk2_0.below q1 (by simp <;> omega)
            have B2:=blk2_1.below q1 (by simp <;> omega)
            have z1:w.heap.size+1+1≤w1.heap.size:=by have:=q1.size; simpa using this
            clear q1
            have g1:=B1.cell
            have g2:=B2.cell
            go_wp2_with fail
            clear g1 g2
            refine (eqPortS_v _ _ x.ports y.ports _ (B:=B) (B':=B') ⟨A2,n2,c2,rfl,h2.below portRd_ok ((T).mono hB),r2⟩ ⟨A2',n2',c2',rfl,h2'.below portRd_ok ((T).mono hB'),r2'⟩ (Nat.le_trans hB (T).size) (Nat.le_trans hB' (T).size)).mono ?_
            rintro e w2 ⟨rfl,q2⟩
            have T:=T.trans (q2.mono T.size)
            have B1:=B1.below q2 (by omega)
            have B2:=B2.below q2 (by omega)
            have z2:=Nat.le_trans z1 q2.size
            clear q2
            go_wp2_with fail
            go_ret
            exact ⟨by rw [He.out]; rfl,T⟩
          · have f4:eqL x.ports y.ports=false:=decide_eq_false e4
            have He:Hid (decide (x=y)=false):=decide_eq_false (by intro exy; exact e4 (by rw [exy]))
            clear e0 e1 e2 e3 e4
            go_enter Tryz.func40,Tryz.ntmps40
            go_wp2_with fail
            refine (eqInt64S_v _ _ x.data y.data _ (B:=B) (B':=B') ⟨A1,n1,c1,rfl,h1.below intRd_ok ((hb _ _).mono hB),r1⟩ ⟨A1',n1',c1',rfl,h1'.below intRd_ok ((hb _ _).mono hB'),r1'⟩ (Nat.le_trans hB (hb _ _).size) (Nat.le_trans hB' (hb _ _).size)).mono ?_
            rintro e w1 ⟨rfl,q1⟩
            have T:=(hb _ _).trans (q1.mono (hb _ _).size)
            have B1:=blk2_0.below q1 (by simp <;> omega)
            have B2:=blk2_1.below q1 (by simp <;> omega)
            have z1:w.heap.size+1+1≤w1.heap.size:=by have:=q1.size; simpa using this
            clear q1
            have g1:=B1.cell
            have g2:=B2.cell
            go_wp2_with fail
            clear g1 g2
            refine (eqPortS_v _ _ x.ports y.ports _ (B:=B) (B':=B') ⟨A2,n2,c2,rfl,h2.below portRd_ok ((T).mono hB),r2⟩ ⟨A2',n2',c2',rfl,h2'.below portRd_ok ((T).mono hB'),r2'⟩ (Nat.le_trans hB (T).size) (Nat.le_trans hB' (T).size)).mono ?_
            rintro e w2 ⟨rfl,q2⟩
            have T:=T.trans (q2.mono T.size)
            have B1:=B1.below q2 (by omega)
            have B2:=B2.below q2 (by omega)
            have z2:=Nat.le_trans z1 q2.size
            clear q2
            go_wp2_with fail
            go_ret
            exact ⟨by rw [He.out]; rfl,T⟩
        · have f3:eqL x.data y.data=false:=decide_eq_false e3
          have He:Hid (decide (x=y)=false):=decide_eq_false (by intro exy; exact e3 (by rw [exy]))
          clear e0 e1 e2 e3
          go_enter Tryz.func40,Tryz.ntmps40
          go_wp2_with fail
          refine (eqInt64S_v _ _ x.data y.data _ (B:=B) (B':=B') ⟨A1,n1,c1,rfl,h1.below intRd_ok ((hb _ _).mono hB),r1⟩ ⟨A1',n1',c1',rfl,h1'.below intRd_ok ((hb _ _).mono hB'),r1'⟩ (Nat.le_trans hB (hb _ _).size) (Nat.le_trans hB' (hb _ _).size)).mono ?_
          rintro e w1 ⟨rfl,q1⟩
          have T:=(hb _ _).trans (q1.mono (hb _ _).size)
          have B1:=blk2_0.below q1 (by simp <;> omega)
          have B2:=blk2_1.below q1 (by simp <;> omega)
          have z1:w.heap.size+1+1≤w1.heap.size:=by have:=q1.size; simpa using this
          clear q1
          go_wp2_with fail
          go_ret
          exact ⟨by rw [He.out]; rfl,T⟩
      · have f2:(x.value != y.value)=true:=by simp [e2]
        have He:Hid (decide (x=y)=false):=decide_eq_false (by intro exy; exact e2 (by rw [exy]))
        clear e0 e1 e2
        go_enter Tryz.func40,Tryz.ntmps40
        go_wp2_with fail
        go_ret
        exact ⟨by rw [He.out]; rfl,hb _ _⟩
    · have f1:(x.level != y.level)=true:=by simp [e1]
      have He:Hid (decide (x=y)=false):=decide_eq_false (by intro exy; exact e1 (by rw [exy]))
      clear e0 e1
      go_enter Tryz.func40,Tryz.ntmps40
      go_wp2_with fail
      go_ret
      exact ⟨by rw [He.out]; rfl,hb _ _⟩
  · have f0:(x.kind != y.kind)=true:=by simp [e0]
    have He:Hid (decide (x=y)=false):=decide_eq_false (by intro exy; exact e0 (by rw [exy]))
    clear e0
    go_enter Tryz.func40,Tryz.ntmps40
    go_wp2_with fail
    go_ret
    exact ⟨by rw [He.out]; rfl,hb _ _⟩
set_option maxHeartbeats 1000000 in
theorem eqAgentS_v (v u:Value) (xs ys:List DAgent) (w:World) {B B':Nat} (h:RdS agentRd 5 w B v xs) (h':RdS agentRd 5 w B' u ys) (hB:B≤w.heap.size) (hB':B'≤w.heap.size) :
    Calls Tryz.prog 20 #[v,u] w fun e w'=>e=.returned (.bool (eqL xs ys))∧Below w.heap.size w w':=by
  obtain ⟨A,n,c,rfl,hx,hnc,hcm⟩:=h
  obtain ⟨C,m,d,rfl,hy,hmd,hdm⟩:=h'
  unfold maxLen at hcm hdm
  have lx:=Lib.hid hx.len
  have ly:=Lib.hid hy.len
  have hr:=Below.refl w.heap.size w
  by_cases hnm:n=m
  · subst hnm
    go_enter Tryz.func20,Tryz.ntmps20
    go_wp2
    go_loopw [5] (fun i wr=>∃k:Nat,k≤n∧i=.int .i64 k∧Hid (xs.take k=ys.take k)∧Below w.heap.size w wr) (fun i _=>n - (intOf i).toNat)
    case atStart=>exact ⟨0,by omega,rfl,rfl,hr⟩
    case round=>
      obtain ⟨k,hk,rfl,ht,hq⟩:=hrel
      by_cases hlt:k < n
      · have hx':=hx.below agentRd_ok (hq.mono hB)
        have hy':=hy.below agentRd_ok (hq.mono hB')
        obtain ⟨b,off,x,A1,n1,c1,A2,n2,c2,rfl,hb,hxk,hc0,hc1,hc2,hc3,hc4,⟨h1,r1⟩,⟨h2,r2⟩⟩:=hx'.agent hlt
        obtain ⟨b',off',y,A1',n1',c1',A2',n2',c2',rfl,hb',hyk,hc0',hc1',hc2',hc3',hc4',⟨h1',r1'⟩,⟨h2',r2'⟩⟩:=hy'.agent hlt
        have Hxk:=Lib.hid hxk
        have Hyk:=Lib.hid hyk
        clear hxk hyk hx' hy'
        have hzB:B≤wr.drew.heap.size:=Nat.le_trans hB hq.size
        have hzB':B'≤wr.drew.heap.size:=Nat.le_trans hB' hq.size
        by_cases hxy:x=y
        · have hf:decide (x=y)=true:=decide_eq_true hxy
          have Hxy:=Lib.hid hxy
          clear hxy
          go_wp2_with fail
          go_region_with (go_at_call 40; refine (eqAgent_v _ _ x y _ (B:=B) (B':=B') ⟨_,rfl,A1,n1,c1,A2,n2,c2,rfl,⟨h1.drew intRd_ok,r1⟩,⟨h2.drew portRd_ok,r2⟩⟩ ⟨_,rfl,A1',n1',c1',A2',n2',c2',rfl,⟨h1'.drew intRd_ok,r1'⟩,⟨h2'.drew portRd_ok,r2'⟩⟩ hzB hzB').mono ?_; rintro e w1 ⟨rfl,hq1⟩)
          all_goals
            go_wp2_with fail
            go_roundw
            case rel=>exact ⟨k+1,by omega,by go_num,eqL_step Hxk.out Hyk.out ht.out Hxy.out,hq.drew.trans (hq1.mono hq.size)⟩
            case measure=>simp [intOf]; omega
        · have hf:decide (x=y)=false:=decide_eq_false hxy
          have Hno:=Lib.hid (eqL_no Hxk.out Hyk.out hxy)
          clear hxy
          go_wp2_with fail
          go_region_with (go_at_call 40; refine (eqAgent_v _ _ x y _ (B:=B) (B':=B') ⟨_,rfl,A1,n1,c1,A2,n2,c2,rfl,⟨h1.drew intRd_ok,r1⟩,⟨h2.drew portRd_ok,r2⟩⟩ ⟨_,rfl,A1',n1',c1',A2',n2',c2',rfl,⟨h1'.drew intRd_ok,r1'⟩,⟨h2'.drew portRd_ok,r2'⟩⟩ hzB hzB').mono ?_; rintro e w1 ⟨rfl,hq1⟩)
          all_goals
            go_wp2_with fail
            go_ret
            exact ⟨by rw [Hno.out]; rfl,hq.drew.trans (hq1.mono hq.size)⟩
      · have Hyes:=Lib.hid (eqL_yes (k:=k) ht.out (by have:=lx.out; omega) (by have:=ly.out; omega))
        go_wp2
        go_ret
        exact ⟨by rw [Hyes.out]; rfl,hq⟩
  · have Hno:=Lib.hid (eqL_len (xs:=xs) (ys:=ys) (by have:=lx.out; have:=ly.out; omega))
    have hf:((n:Int) != (m:Int))=true:=by simp; omega
    go_enter Tryz.func20,Tryz.ntmps20
    go_wp2
    go_ret
    exact ⟨by rw [Hno.out]; rfl,hr⟩
set_option maxHeartbeats 1000000 in
theorem eqNet_v (v u:Value) (x y:DNet) (w:World) {B B':Nat} (h:RdT netRd w B v x) (h':RdT netRd w B' u y) (hB:B≤w.heap.size) (hB':B'≤w.heap.size) :
    Calls Tryz.prog 9 #[v,u] w fun e w'=>e=.returned (.bool (decide (x=y)))∧Below w.heap.size w w':=by
  obtain ⟨cs,rfl,A1,n1,c1,rfl,⟨h1,r1⟩⟩:=h
  obtain ⟨cs,rfl,A1',n1',c1',rfl,⟨h1',r1'⟩⟩:=h'
  have hb :∀o1 o2,Below w.heap.size w ((w.alloc o1).alloc o2):=fun o1 o2=>((Below.refl _ _).alloc (Nat.le_refl _) _).alloc (by simp) _
  by_cases e0:x.agents=y.agents
  · have f0:eqL x.agents y.agents=true:=decide_eq_true e0
    have He:Hid (decide (x=y)=true):=decide_eq_true (by cases x; cases y; simp_all)
    clear e0
    go_enter Tryz.func9,Tryz.ntmps9
    go_wp2_with fail
    refine (eqAgentS_v _ _ x.agents y.agents _ (B:=B) (B':=B') ⟨A1,n1,c1,rfl,h1.below agentRd_ok ((hb _ _).mono hB),r1⟩ ⟨A1',n1',c1',rfl,h1'.below agentRd_ok ((hb _ _).mono hB'),r1'⟩ (Nat.le_trans hB (hb _ _).size) (Nat.le_trans hB' (hb _ _).size)).mono ?_
    rintro e w1 ⟨rfl,q1⟩
    have T:=(hb _ _).trans (q1.mono (hb _ _).size)
    have B1:=blk2_0.below q1 (by simp <;> omega)
    have B2:=blk2_1.below q1 (by simp <;> omega)
    have z1:w.heap.size+1+1≤w1.heap.size:=by have:=q1.size; simpa using this
    clear q1
    go_wp2_with fail
    go_ret
    exact ⟨by rw [He.out]; rfl,T⟩
  · have f0:eqL x.agents y.agents=false:=decide_eq_false e0
    have He:Hid (decide (x=y)=false):=decide_eq_false (by intro exy; exact e0 (by rw [exy]))
    clear e0
    go_enter Tryz.func9,Tryz.ntmps9
    go_wp2_with fail
    refine (eqAgentS_v _ _ x.agents y.agents _ (B:=B) (B':=B') ⟨A1,n1,c1,rfl,h1.below agentRd_ok ((hb _ _).mono hB),r1⟩ ⟨A1',n1',c1',rfl,h1'.below agentRd_ok ((hb _ _).mono hB'),r1'⟩ (Nat.le_trans hB (hb _ _).size) (Nat.le_trans hB' (hb _ _).size)).mono ?_
    rintro e w1 ⟨rfl,q1⟩
    have T:=(hb _ _).trans (q1.mono (hb _ _).size)
    have B1:=blk2_0.below q1 (by simp <;> omega)
    have B2:=blk2_1.below q1 (by simp <;> omega)
    have z1:w.heap.size+1+1≤w1.heap.size:=by have:=q1.size; simpa using this
    clear q1
    go_wp2_with fail
    go_ret
    exact ⟨by rw [He.out]; rfl,T⟩
end
section
open Go.RowKit Go.Sort
theorem agentOk_p {x:DAgent} (h:agentOk x=true):content x.kind x.value x.data=true∧okI x.level∧x.ports.length≤4:=by
  unfold agentOk at h
  simp only [Bool.and_eq_true,decide_eq_true_eq] at h
  obtain ⟨⟨⟨h1,h2⟩,h3⟩,h4⟩:=h
  refine ⟨h4,?_,?_⟩
  · unfold allowed isLevel at h3
    simp at h3
    unfold okI
    omega
  · have:portsOf x.kind (fieldsN x.kind x.ports.length)≤4:=by
      unfold portsOf
      repeat' split
      all_goals omega
    omega
theorem content_len {k v:Int} {d:List Int} (h:content k v d=true):d.length≤4:=by
  unfold content at h
  repeat' split at h
  all_goals simp only [Bool.and_eq_true,decide_eq_true_eq] at h; omega
theorem content_ok {x:DAgent} (h:content x.kind x.value x.data=true):(bodyT x).size≤120:=by
  unfold bodyT
  split
  · rename_i e
    have ho:okI x.value:=by
      rcases e with e|e|e
      · rw [e] at h; simp [content] at h; exact okI_32 h.2
      · rw [e] at h; simp [content] at h; unfold okI; omega
      · rw [e] at h; simp [content] at h; exact okI_def h.2
    have:=itoaB_size ho.1 ho.2
    simp only [ba_app_size,sz1]; omega
  · split
    · rename_i e
      have ho:operB x.value=true:=by rw [e] at h; simp [content] at h; exact h.2
      have:=opT_size ho
      simp only [ba_app_size,sz1]; omega
    · split
      · rename_i e
        have hk':x.data.length=1∧operB x.value=true∧int32B (x.data.getD 0 0)=true:=by rw [e] at h; simp [content] at h; simpa [List.getD,and_assoc] using h
        obtain ⟨h1,ho,h3⟩:=hk'
        have hd :∀y∈x.data,okI y:=fun y hy=>by
          cases hx:x.data with
          |nil=>rw [hx] at hy; simp at hy
          |cons a r=>
            rw [hx] at h1 hy h3
            cases r with
            |nil=>simp at hy; rw [hy]; exact okI_32 h3
            |cons b r=>simp at h1
        have:=opT_size ho
        have:=numsB_size (c:=44) hd
        simp only [ba_app_size,sz1]; omega
      · split
        · rename_i e
          have hl:=content_len h
          have hd :∀y∈x.data,okI y:=by
            rcases e with e|e
            · rw [e] at h; simp only [content] at h; simp at h; exact fun y hy=>okI_def (h.2 y hy)
            · rw [e] at h; simp only [content] at h; simp at h; exact fun y hy=>okI_def (h.2 y hy)
          have:=numsB_size (c:=44) hd
          simp only [ba_app_size,sz1]; omega
        · rw [sz0]; omega
theorem agT_size {x:DAgent} (h:agentOk x=true) (hp :∀p∈x.ports,okP p):(agT x).size≤1000:=by
  obtain ⟨h1,h2,h3⟩:=agentOk_p h
  have a:=portsT_size (ps:=x.ports) (z:=headT x ++ bodyT x) hp
  have b:=content_ok h1
  have c:=itoaB_size h2.1 h2.2
  have d:=kind_name_size x.kind
  have e:(headT x).size≤26:=by
    unfold headT
    split
    · simp only [ba_app_size,sz1]; omega
    · omega
  rw [ba_app_size] at a
  unfold agT
  omega
/-- What a valid net gives. -/
theorem valid_p {d:DNet} (h:validNet d=true):d.agents.length≤600∧∀x∈d.agents,agentOk x=true∧∀p∈x.ports,okP p:=by
  obtain ⟨⟨_,hl,ha⟩,hP⟩:=validNet_iff.1 h
  refine ⟨hl,fun x hx=>?_⟩
  obtain ⟨i,hi,rfl⟩:=List.getElem_of_mem hx
  have hx:=List.getElem?_eq_getElem hi
  refine ⟨(ha i _ hx).1,fun p hp=>?_⟩
  obtain ⟨k,hk,rfl⟩:=List.getElem_of_mem hp
  have hq:=List.getElem?_eq_getElem hk
  have hb:=hP i _ hx k hk
  rw [badPort_at hx hq] at hb
  simp only [Bool.or_eq_false_iff,Bool.not_eq_false',hasPort,Bool.and_eq_true,decide_eq_true_eq] at hb
  obtain ⟨⟨_,hb,hb2⟩,_⟩:=hb
  generalize hq':d.agents[i].ports[k] = q at *
  have hal:q.agent < d.agents.length:=hb.1.2
  have hs:(agentAt d.agents q.agent).ports.length≤4:=by
    have hm:agentAt d.agents q.agent∈d.agents:=by
      unfold agentAt
      rw [List.getD_eq_getElem?_getD,List.getElem?_eq_getElem (by omega)]
      exact List.getElem_mem _
    obtain ⟨j,hj,e⟩:=List.getElem_of_mem hm
    rw [← e]
    exact (agentOk_p (ha j _ (List.getElem?_eq_getElem hj)).1).2.2
  unfold okP okI
  omega
def netT (d:DNet):ByteArray:=joinB (d.agents.map agT) (ByteArray.mk #[59,32])
theorem netT_size {xs:List DAgent} (h :∀x∈xs,agentOk x=true∧∀p∈x.ports,okP p):(joinB (xs.map agT) (ByteArray.mk #[59,32])).size≤1002 * xs.length:=by
  have:=joinB_size (M:=1000) (q:=2) (s:=ByteArray.mk #[59,32]) (Nat.le_refl _) _ (xs.map agT) rfl (fun y hy=>by
    obtain ⟨x,hx,rfl⟩:=List.mem_map.1 hy
    exact agT_size (h x hx).1 (h x hx).2)
  simpa using this
theorem p_sText {d:DNet} (h:validNet d=true):m_spec_l11Text d=some (netT d):=by
  obtain ⟨hl,hx⟩:=valid_p h
  obtain ⟨xs⟩:=d
  simp only at hl hx
  unfold m_spec_l11Text
  have key:=traj (L:=fun g (s:List Int × Int)=>m_spec_l11Text_L1 ⟨xs⟩ m_spec_l11Text_A1 g s.1 s.2) (st:=fun i=>(nums (joinB ((xs.take i).map agT) (ByteArray.mk #[59,32])),(i:Int))) (n:=xs.length) (r:=some (netT ⟨xs⟩))
    (fun g i hi=>by
      have hxi:=List.getElem?_eq_getElem hi
      obtain ⟨ho,hp⟩:=hx xs[i] (List.getElem_mem hi)
      obtain ⟨h1,h2,h3⟩:=agentOk_p ho
      have hz:=netT_size (xs:=xs.take i) (fun y hy=>hx y (List.mem_of_mem_take hy))
      have hlt:(xs.take i).length≤i:=by simp; omega
      have hs:=agT_size ho hp
      have hA:=p_sAgentT xs[i] h1 h2 hp (by omega)
      simp only []
      rw [m_spec_l11Text_L1,m_spec_l11Text_B1,dlt hi,cond_true]
      by_cases h0:0 < i
      · rw [show decide ((i:Int) > 0)=true by simpa using h0,cond_true,mustP_ok (by rw [nums_length,nums_length,sz2]; omega),Option.bind_some,getI_lt hi,Option.bind_some,hA,Option.bind_some,mustP_ok (by rw [List.length_append,nums_length,nums_length,nums_length,sz2]; omega),Option.bind_some,List.map_take,List.map_take,joinB_take (x:=agT xs[i]) (by simp [hxi]) h0,nums_app,nums_app]
        rfl
      · obtain rfl:i=0:=by omega
        rw [show decide (((0:Nat):Int) > 0)=false by decide,cond_false,getI_lt hi,Option.bind_some,hA,Option.bind_some,mustP_ok (by rw [nums_length,nums_length]; omega),Option.bind_some]
        congr 1
        rw [take_succ_some hxi]
        simp [joinB_nil,joinB_one,nums])
    (fun g=>by
      simp only []
      rw [m_spec_l11Text_L1,m_spec_l11Text_B1,dge,cond_false,m_spec_l11Text_A1,List.take_length,ofNums_nums]
      rfl) (xs.length+1) (Nat.lt_succ_self _)
  exact key
theorem p_iText {d:DNet} (h:validNet d=true):m_impl_netText d=some (netT d):=by
  obtain ⟨hl,hx⟩:=valid_p h
  obtain ⟨xs⟩:=d
  simp only at hl hx
  unfold m_impl_netText
  have key:=traj (L:=fun g (s:List ByteArray × Int)=>m_impl_netText_L1 ⟨xs⟩ m_impl_netText_A1 g s.1 s.2) (st:=fun i=>((xs.take i).map agT,(i:Int))) (n:=xs.length) (r:=some (netT ⟨xs⟩))
    (fun g i hi=>by
      have hxi:=List.getElem?_eq_getElem hi
      obtain ⟨ho,hp⟩:=hx xs[i] (List.getElem_mem hi)
      obtain ⟨h1,h2,h3⟩:=agentOk_p ho
      have hA:=p_iAgentT xs[i] h1 h2 hp (by omega)
      simp only []
      rw [m_impl_netText_L1,m_impl_netText_B1,dlt hi,cond_true,getI_lt hi,Option.bind_some,hA,Option.bind_some,mustP_ok (by simp; omega),Option.bind_some,take_succ_some hxi,List.map_append]
      rfl)
    (fun g=>by
      have hz:=netT_size hx
      simp only []
      rw [m_impl_netText_L1,m_impl_netText_B1,dge,cond_false,m_impl_netText_A1,List.take_length,joinM,if_pos ⟨by simp; omega,by omega⟩]
      rfl) (xs.length+1) (Nat.lt_succ_self _)
  exact key
end
section
open Go.RowKit
section
variable {α : Type} {R R' : Rd α} {O O' : Ow α} {sz : Nat} {w : World} {B n b : Nat} {A : Option Addr}
theorem SlAt.congr {xs:List α} (hc :∀y∈xs,∀cs,R w B cs y→R' w B cs y) (h:SlAt R sz w B A n xs):SlAt R' sz w B A n xs:=
  ⟨h.1,fun hn=>by
    obtain ⟨b,off,e,hb,hs⟩:=h.2 hn
    exact ⟨b,off,e,hb,fun i x hx=>by
      obtain ⟨cs,hR,hv⟩:=hs i x hx
      exact ⟨cs,hc x (List.mem_of_getElem? hx) cs hR,hv⟩⟩⟩
theorem ElAt.congr :∀{xs:List α} {o:Nat} {bs:List Nat},(∀y∈xs,∀cs bs,O w cs y bs→O' w cs y bs)→ElAt O sz w b o xs bs→ElAt O' sz w b o xs bs
  |[],_,_,_,h=>h
  |x :: xs,o,_,hc,⟨cs,b1,b2,hO,hcs,e,hr⟩=>⟨cs,b1,b2,hc x (by simp) cs b1 hO,hcs,e,ElAt.congr (fun y hy=>hc y (by simp [hy])) hr⟩
theorem OwAt.congr {xs:List α} {bs:List Nat} (hc :∀y∈xs,∀cs bs,O w cs y bs→O' w cs y bs) (h:OwAt O sz w A n xs bs):OwAt O' sz w A n xs bs:=by
  refine ⟨h.1,?_⟩
  rcases h.2 with h2|⟨b,o,b2,e,e2,h2⟩
  · exact .inl h2
  · exact .inr ⟨b,o,b2,e,e2,h2.congr hc⟩
end
structure DType where
  kind:Int
  name:ByteArray
  kids:List DType
instance:Inhabited DType:=⟨⟨0,ByteArray.empty,[]⟩⟩
theorem DType.pos (x:DType):0 < SizeOf.sizeOf x:=by
  obtain ⟨a0,a1,a2⟩:=x
  simp only [DType.mk.sizeOf_spec]
  omega
structure DConstructor where
  name:ByteArray
  fields:List DType
instance:Inhabited DConstructor:=⟨⟨ByteArray.empty,[]⟩⟩
structure DData where
  name:ByteArray
  cons:List DConstructor
instance:Inhabited DData:=⟨⟨ByteArray.empty,[]⟩⟩
structure DSignature where
  datas:List DData
  defs:List DType
instance:Inhabited DSignature:=⟨⟨[],[]⟩⟩
structure DTypedNet where
  net:DNet
  types:List (List DType)
instance:Inhabited DTypedNet:=⟨⟨⟨[]⟩,[]⟩⟩
structure DCore where
  kind:Int
  value:Int
  data:List Int
  kids:List DCore
instance:Inhabited DCore:=⟨⟨0,0,[],[]⟩⟩
theorem DCore.pos (x:DCore):0 < SizeOf.sizeOf x:=by
  obtain ⟨a0,a1,a2,a3⟩:=x
  simp only [DCore.mk.sizeOf_spec]
  omega
end
section
open Go.RowKit
section
variable {v1 v2 v : Value} {w w' w2 : World} {b k : Nat} {bs : List Nat}
theorem KeepV.belowLo (K:KeepV v1 v2 w w') (hb:Below w.heap.size w' w2):KeepV v1 v2 w w2:=⟨Nat.le_trans K.size hb.size,fun b h1 h2 h3=>(hb.block b h1).trans (K.block b h1 h2 h3)⟩
theorem cellNe (h:k ≠ b):(Value.slice (some ⟨b,0,none⟩) 1 1).ownBlock ≠ some k:=fun e=>h (Option.some.inj e).symm
theorem cellDj (h:v.ownBlock ≠ some b):Dj v (.slice (some ⟨b,0,none⟩) 1 1):=fun j h1 h2=>h (h1.trans h2.symm)
theorem Below.weak {n m:Nat} (h:n≤m) (hb:Below m w w'):Below n w w':=hb.mono h
end
end
section
open Go.RowKit
def kindNamed (s:ByteArray):Int:=
  if s=kindName 1 then 1 else if s=kindName 2 then 2 else if s=kindName 3 then 3 else if s=kindName 4 then 4 else if s=kindName 5 then 5 else if s=kindName 6 then 6 else if s=kindName 7 then 7 else if s=kindName 8 then 8 else if s=kindName 9 then 9 else if s=kindName 10 then 10 else if s=kindName 11 then 11 else if s=kindName 12 then 12 else 0
def NoKind (s:ByteArray) (k:Nat):Prop:=∀j:Nat,j < k→s ≠ kindName ((j:Int)+1)
theorem NoKind.step {s:ByteArray} {k:Nat} (h:NoKind s k) (hk:s ≠ kindName ((k:Int)+1)):NoKind s (k+1):=fun j hj=>by
  by_cases he:j=k
  · subst he; exact hk
  · exact h j (by omega)
theorem kindNamed_none {s:ByteArray} (h:NoKind s 12):kindNamed s=0:=by
  unfold kindNamed
  rw [if_neg (show ¬ (s=kindName 1) from h 0 (by decide)),if_neg (show ¬ (s=kindName 2) from h 1 (by decide)),if_neg (show ¬ (s=kindName 3) from h 2 (by decide)),if_neg (show ¬ (s=kindName 4) from h 3 (by decide)),if_neg (show ¬ (s=kindName 5) from h 4 (by decide)),if_neg (show ¬ (s=kindName 6) from h 5 (by decide)),if_neg (show ¬ (s=kindName 7) from h 6 (by decide)),if_neg (show ¬ (s=kindName 8) from h 7 (by decide)),if_neg (show ¬ (s=kindName 9) from h 8 (by decide)),if_neg (show ¬ (s=kindName 10) from h 9 (by decide)),if_neg (show ¬ (s=kindName 11) from h 10 (by decide)),if_neg (show ¬ (s=kindName 12) from h 11 (by decide))]
theorem str_ne {a b:ByteArray} (h:¬ (a=b)):(a.toList==b.toList)=false:=by
  rw [beq_eq_false_iff_ne]
  intro e
  rw [ByteArray.toList_eq,ByteArray.toList_eq] at e
  exact h (Go.WideShapes.bytes_inj e)
theorem kindNamed_at :∀k:Nat,k < 12→kindNamed (kindName ((k:Int)+1))=(k:Int)+1:=by decide
set_option maxHeartbeats 4000000 in
set_option maxRecDepth 100000 in
theorem impl_KindNamed (s:ByteArray) (w:World) (hg:KindsAt w):Calls Tryz.prog 47 #[.string s] w fun e w'=>e=.returned (.int .i64 (kindNamed s))∧Below w.heap.size w w':=by
  have hr:=Below.refl w.heap.size w
  obtain ⟨g1,g2,g3,g4,g5,g6,g7,g8,g9,g10,g11,g12⟩:=kinds_all hg
  clear hg
  go_enter Tryz.func47,Tryz.ntmps47
  go_wp2_with fail
  go_loop [3,4,6] (fun a b i=>∃k:Nat,k≤12∧i=.int .i64 k∧Hid (NoKind s k)) (fun _ _ i=>12 - (intOf i).toNat)
  case atStart=>exact ⟨0,by omega,rfl,fun j hj=>absurd hj (Nat.not_lt_zero j)⟩
  case round=>
    obtain ⟨k,hk,rfl,hf⟩:=hrel
    by_cases hlt:k < 12
    · have hk:k=0 ∨ k=1 ∨ k=2 ∨ k=3 ∨ k=4 ∨ k=5 ∨ k=6 ∨ k=7 ∨ k=8 ∨ k=9 ∨ k=10 ∨ k=11:=by omega
      rcases hk with rfl|rfl|rfl|rfl|rfl|rfl|rfl|rfl|rfl|rfl|rfl|rfl
      · have hx:(Instr.index 112 (.agg #[.string (kindName 1),.string (kindName 2),.string (kindName 3),.string (kindName 4),.string (kindName 5),.string (kindName 6),.string (kindName 7),.string (kindName 8),.string (kindName 9),.string (kindName 10),.string (kindName 11),.string (kindName 12)]) (.int .i64 0)).run Tryz.prog w=.ok (.string (kindName 1)) w:=by kernel_rfl
        by_cases hs:kindName 1=s
        · subst hs
          have He:=Lib.hid (kindNamed_at 0 (by decide))
          clear hf
          go_wp2
          go_ret
          exact ⟨by rw [show kindNamed (kindName 1)=1 from He.out]; rfl,hr⟩
        · have Hs:=Lib.hid (NoKind.step hf.out (k:=0) (fun h=>hs h.symm))
          have Hq:=str_ne hs
          clear hf hs
          go_wp2
          go_round
          case rel=>exact ⟨1,by omega,by go_num,Hs.out⟩
          case measure=>simp [intOf]
      · have hx:(Instr.index 112 (.agg #[.string (kindName 1),.string (kindName 2),.string (kindName 3),.string (kindName 4),.string (kindName 5),.string (kindName 6),.string (kindName 7),.string (kindName 8),.string (kindName 9),.string (kindName 10),.string (kindName 11),.string (kindName 12)]) (.int .i64 1)).run Tryz.prog w=.ok (.string (kindName 2)) w:=by kernel_rfl
        by_cases hs:kindName 2=s
        · subst hs
          have He:=Lib.hid (kindNamed_at 1 (by decide))
          clear hf
          go_wp2
          go_ret
          exact ⟨by rw [show kindNamed (kindName 2)=2 from He.out]; rfl,hr⟩
        · have Hs:=Lib.hid (NoKind.step hf.out (k:=1) (fun h=>hs h.symm))
          have Hq:=str_ne hs
          clear hf hs
          go_wp2
          go_round
          case rel=>exact ⟨2,by omega,by go_num,Hs.out⟩
          case measure=>simp [intOf]
      · have hx:(Instr.index 112 (.agg #[.string (kindName 1),.string (kindName 2),.string (kindName 3),.string (kindName 4),.string (kindName 5),.string (kindName 6),.string (kindName 7),.string (kindName 8),.string (kindName 9),.string (kindName 10),.string (kindName 11),.string (kindName 12)]) (.int .i64 2)).run Tryz.prog w=.ok (.string (kindName 3)) w:=by kernel_rfl
        by_cases hs:kindName 3=s
        · subst hs
          have He:=Lib.hid (kindNamed_at 2 (by decide))
          clear hf
          go_wp2
          go_ret
          exact ⟨by rw [show kindNamed (kindName 3)=3 from He.out]; rfl,hr⟩
        · have Hs:=Lib.hid (NoKind.step hf.out (k:=2) (fun h=>hs h.symm))
          have Hq:=str_ne hs
          clear hf hs
          go_wp2
          go_round
          case rel=>exact ⟨3,by omega,by go_num,Hs.out⟩
          case measure=>simp [intOf]
      · have hx:(Instr.index 112 (.agg #[.string (kindName 1),.string (kindName 2),.string (kindName 3),.string (kindName 4),.string (kindName 5),.string (kindName 6),.string (kindName 7),.string (kindName 8),.string (kindName 9),.string (kindName 10),.string (kindName 11),.string (kindName 12)]) (.int .i64 3)).run Tryz.prog w=.ok (.string (kindName 4)) w:=by kernel_rfl
        by_cases hs:kindName 4=s
        · subst hs
          have He:=Lib.hid (kindNamed_at 3 (by decide))
          clear hf
          go_wp2
          go_ret
          exact ⟨by rw [show kindNamed (kindName 4)=4 from He.out]; rfl,hr⟩
        · have Hs:=Lib.hid (NoKind.step hf.out (k:=3) (fun h=>hs h.symm))
          have Hq:=str_ne hs
          clear hf hs
          go_wp2
          go_round
          case rel=>exact ⟨4,by omega,by go_num,Hs.out⟩
          case measure=>simp [intOf]
      · have hx:(Instr.index 112 (.agg #[.string (kindName 1),.string (kindName 2),.string (kindName 3),.string (kindName 4),.string (kindName 5),.string (kindName 6),.string (kindName 7),.string (kindName 8),.string (kindName 9),.string (kindName 10),.string (kindName 11),.string (kindName 12)]) (.int .i64 4)).run Tryz.prog w=.ok (.string (kindName 5)) w:=by kernel_rfl
        by_cases hs:kindName 5=s
        · subst hs
          have He:=Lib.hid (kindNamed_at 4 (by decide))
          clear hf
          go_wp2
          go_ret
          exact ⟨by rw [show kindNamed (kindName 5)=5 from He.out]; rfl,hr⟩
        · have Hs:=Lib.hid (NoKind.step hf.out (k:=4) (fun h=>hs h.symm))
          have Hq:=str_ne hs
          clear hf hs
          go_wp2
          go_round
          case rel=>exact ⟨5,by omega,by go_num,Hs.out⟩
          case measure=>simp [intOf]
      · have hx:(Instr.index 112 (.agg #[.string (kindName 1),.string (kindName 2),.string (kindName 3),.string (kindName 4),.string (kindName 5),.string (kindName 6),.string (kindName 7),.string (kindName 8),.string (kindName 9),.string (kindName 10),.string (kindName 11),.string (kindName 12)]) (.int .i64 5)).run Tryz.prog w=.ok (.string (kindName 6)) w:=by kernel_rfl
        by_cases hs:kindName 6=s
        · subst hs
          have He:=Lib.hid (kindNamed_at 5 (by decide))
          clear hf
          go_wp2
          go_ret
          exact ⟨by rw [show kindNamed (kindName 6)=6 from He.out]; rfl,hr⟩
        · have Hs:=Lib.hid (NoKind.step hf.out (k:=5) (fun h=>hs h.symm))
          have Hq:=str_ne hs
          clear hf hs
          go_wp2
          go_round
          case rel=>exact ⟨6,by omega,by go_num,Hs.out⟩
          case measure=>simp [intOf]
      · have hx:(Instr.index 112 (.agg #[.string (kindName 1),.string (kindName 2),.string (kindName 3),.string (kindName 4),.string (kindName 5),.string (kindName 6),.string (kindName 7),.string (kindName 8),.string (kindName 9),.string (kindName 10),.string (kindName 11),.string (kindName 12)]) (.int .i64 6)).run Tryz.prog w=.ok (.string (kindName 7)) w:=by kernel_rfl
        by_cases hs:kindName 7=s
        · subst hs
          have He:=Lib.hid (kindNamed_at 6 (by decide))
          clear hf
          go_wp2
          go_ret
          exact ⟨by rw [show kindNamed (kindName 7)=7 from He.out]; rfl,hr⟩
        · have Hs:=Lib.hid (NoKind.step hf.out (k:=6) (fun h=>hs h.symm))
          have Hq:=str_ne hs
          clear hf hs
          go_wp2
          go_round
          case rel=>exact ⟨7,by omega,by go_num,Hs.out⟩
          case measure=>simp [intOf]
      · have hx:(Instr.index 112 (.agg #[.string (kindName 1),.string (kindName 2),.string (kindName 3),.string (kindName 4),.string (kindName 5),.string (kindName 6),.string (kindName 7),.string (kindName 8),.string (kindName 9),.string (kindName 10),.string (kindName 11),.string (kindName 12)]) (.int .i64 7)).run Tryz.prog w=.ok (.string (kindName 8)) w:=by kernel_rfl
        by_cases hs:kindName 8=s
        · subst hs
          have He:=Lib.hid (kindNamed_at 7 (by decide))
          clear hf
          go_wp2
          go_ret
          exact ⟨by rw [show kindNamed (kindName 8)=8 from He.out]; rfl,hr⟩
        · have Hs:=Lib.hid (NoKind.step hf.out (k:=7) (fun h=>hs h.symm))
          have Hq:=str_ne hs
          clear hf hs
          go_wp2
          go_round
          case rel=>exact ⟨8,by omega,by go_num,Hs.out⟩
          case measure=>simp [intOf]
      · have hx:(Instr.index 112 (.agg #[.string (kindName 1),.string (kindName 2),.string (kindName 3),.string (kindName 4),.string (kindName 5),.string (kindName 6),.string (kindName 7),.string (kindName 8),.string (kindName 9),.string (kindName 10),.string (kindName 11),.string (kindName 12)]) (.int .i64 8)).run Tryz.prog w=.ok (.string (kindName 9)) w:=by kernel_rfl
        by_cases hs:kindName 9=s
        · subst hs
          have He:=Lib.hid (kindNamed_at 8 (by decide))
          clear hf
          go_wp2
          go_ret
          exact ⟨by rw [show kindNamed (kindName 9)=9 from He.out]; rfl,hr⟩
        · have Hs:=Lib.hid (NoKind.step hf.out (k:=8) (fun h=>hs h.symm))
          have Hq:=str_ne hs
          clear hf hs
          go_wp2
          go_round
          case rel=>exact ⟨9,by omega,by go_num,Hs.out⟩
          case measure=>simp [intOf]
      · have hx:(Instr.index 112 (.agg #[.string (kindName 1),.string (kindName 2),.string (kindName 3),.string (kindName 4),.string (kindName 5),.string (kindName 6),.string (kindName 7),.string (kindName 8),.string (kindName 9),.string (kindName 10),.string (kindName 11),.string (kindName 12)]) (.int .i64 9)).run Tryz.prog w=.ok (.string (kindName 10)) w:=by kernel_rfl
        by_cases hs:kindName 10=s
        · subst hs
          have He:=Lib.hid (kindNamed_at 9 (by decide))
          clear hf
          go_wp2
          go_ret
          exact ⟨by rw [show kindNamed (kindName 10)=10 from He.out]; rfl,hr⟩
        · have Hs:=Lib.hid (NoKind.step hf.out (k:=9) (fun h=>hs h.symm))
          have Hq:=str_ne hs
          clear hf hs
          go_wp2
          go_round
          case rel=>exact ⟨10,by omega,by go_num,Hs.out⟩
          case measure=>simp [intOf]
      · have hx:(Instr.index 112 (.agg #[.string (kindName 1),.string (kindName 2),.string (kindName 3),.string (kindName 4),.string (kindName 5),.string (kindName 6),.string (kindName 7),.string (kindName 8),.string (kindName 9),.string (kindName 10),.string (kindName 11),.string (kindName 12)]) (.int .i64 10)).run Tryz.prog w=.ok (.string (kindName 11)) w:=by kernel_rfl
        by_cases hs:kindName 11=s
        · subst hs
          have He:=Lib.hid (kindNamed_at 10 (by decide))
          clear hf
          go_wp2
          go_ret
          exact ⟨by rw [show kindNamed (kindName 11)=11 from He.out]; rfl,hr⟩
        · have Hs:=Lib.hid (NoKind.step hf.out (k:=10) (fun h=>hs h.symm))
          have Hq:=str_ne hs
          clear hf hs
          go_wp2
          go_round
          case rel=>exact ⟨11,by omega,by go_num,Hs.out⟩
          case measure=>simp [intOf]
      · have hx:(Instr.index 112 (.agg #[.string (kindName 1),.string (kindName 2),.string (kindName 3),.string (kindName 4),.string (kindName 5),.string (kindName 6),.string (kindName 7),.string (kindName 8),.string (kindName 9),.string (kindName 10),.string (kindName 11),.string (kindName 12)]) (.int .i64 11)).run Tryz.prog w=.ok (.string (kindName 12)) w:=by kernel_rfl
        by_cases hs:kindName 12=s
        · subst hs
          have He:=Lib.hid (kindNamed_at 11 (by decide))
          clear hf
          go_wp2
          go_ret
          exact ⟨by rw [show kindNamed (kindName 12)=12 from He.out]; rfl,hr⟩
        · have Hs:=Lib.hid (NoKind.step hf.out (k:=11) (fun h=>hs h.symm))
          have Hq:=str_ne hs
          clear hf hs
          go_wp2
          go_round
          case rel=>exact ⟨12,by omega,by go_num,Hs.out⟩
          case measure=>simp [intOf]
    · have He:Hid (kindNamed s=0):=by
        have hk:k=12:=by omega
        subst hk
        exact kindNamed_none hf.out
      go_wp2
      go_ret
      exact ⟨by rw [He.out]; rfl,hr⟩
set_option maxHeartbeats 4000000 in
set_option maxRecDepth 100000 in
theorem spec_KindNamed (s:ByteArray) (w:World):Calls Tryz.prog 41 #[.string s] w fun e w'=>e=.returned (.int .i64 (kindNamed s))∧Below w.heap.size w w':=by
  have hr:Below w.heap.size w (w.alloc (.cells kindCells 9)):=(Below.refl _ _).alloc (Nat.le_refl _) _
  go_enter Tryz.func41,Tryz.ntmps41
  go_wp2_with fail
  refine (spec_l10Kinds _).mono ?_
  rintro e w' ⟨rfl,rfl⟩
  simp only [kindCells] at hr ⊢
  go_wp2_with fail
  go_loop [4] (fun i=>∃k:Nat,k≤12∧i=.int .i64 k∧Hid (NoKind s k)) (fun i=>12 - (intOf i).toNat)
  case atStart=>exact ⟨0,by omega,rfl,fun j hj=>absurd hj (Nat.not_lt_zero j)⟩
  case round=>
    obtain ⟨k,hk,rfl,hf⟩:=hrel
    by_cases hlt:k < 12
    · have hk:k=0 ∨ k=1 ∨ k=2 ∨ k=3 ∨ k=4 ∨ k=5 ∨ k=6 ∨ k=7 ∨ k=8 ∨ k=9 ∨ k=10 ∨ k=11:=by omega
      rcases hk with rfl|rfl|rfl|rfl|rfl|rfl|rfl|rfl|rfl|rfl|rfl|rfl
      · by_cases hs:kindName 1=s
        · subst hs
          have He:=Lib.hid (kindNamed_at 0 (by decide))
          clear hf
          go_wp2
          go_ret
          exact ⟨by rw [show kindNamed (kindName 1)=1 from He.out]; rfl,hr⟩
        · have Hs:=Lib.hid (NoKind.step hf.out (k:=0) (fun h=>hs h.symm))
          have Hq:=str_ne hs
          clear hf hs
          go_wp2
          go_round
          case rel=>exact ⟨1,by omega,by go_num,Hs.out⟩
          case measure=>simp [intOf]
      · by_cases hs:kindName 2=s
        · subst hs
          have He:=Lib.hid (kindNamed_at 1 (by decide))
          clear hf
          go_wp2
          go_ret
          exact ⟨by rw [show kindNamed (kindName 2)=2 from He.out]; rfl,hr⟩
        · have Hs:=Lib.hid (NoKind.step hf.out (k:=1) (fun h=>hs h.symm))
          have Hq:=str_ne hs
          clear hf hs
          go_wp2
          go_round
          case rel=>exact ⟨2,by omega,by go_num,Hs.out⟩
          case measure=>simp [intOf]
      · by_cases hs:kindName 3=s
        · subst hs
          have He:=Lib.hid (kindNamed_at 2 (by decide))
          clear hf
          go_wp2
          go_ret
          exact ⟨by rw [show kindNamed (kindName 3)=3 from He.out]; rfl,hr⟩
        · have Hs:=Lib.hid (NoKind.step hf.out (k:=2) (fun h=>hs h.symm))
          have Hq:=str_ne hs
          clear hf hs
          go_wp2
          go_round
          case rel=>exact ⟨3,by omega,by go_num,Hs.out⟩
          case measure=>simp [intOf]
      · by_cases hs:kindName 4=s
        · subst hs
          have He:=Lib.hid (kindNamed_at 3 (by decide))
          clear hf
          go_wp2
          go_ret
          exact ⟨by rw [show kindNamed (kindName 4)=4 from He.out]; rfl,hr⟩
        · have Hs:=Lib.hid (NoKind.step hf.out (k:=3) (fun h=>hs h.symm))
          have Hq:=str_ne hs
          clear hf hs
          go_wp2
          go_round
          case rel=>exact ⟨4,by omega,by go_num,Hs.out⟩
          case measure=>simp [intOf]
      · by_cases hs:kindName 5=s
        · subst hs
          have He:=Lib.hid (kindNamed_at 4 (by decide))
          clear hf
          go_wp2
          go_ret
          exact ⟨by rw [show kindNamed (kindName 5)=5 from He.out]; rfl,hr⟩
        · have Hs:=Lib.hid (NoKind.step hf.out (k:=4) (fun h=>hs h.symm))
          have Hq:=str_ne hs
          clear hf hs
          go_wp2
          go_round
          case rel=>exact ⟨5,by omega,by go_num,Hs.out⟩
          case measure=>simp [intOf]
      · by_cases hs:kindName 6=s
        · subst hs
          have He:=Lib.hid (kindNamed_at 5 (by decide))
          clear hf
          go_wp2
          go_ret
          exact ⟨by rw [show kindNamed (kindName 6)=6 from He.out]; rfl,hr⟩
        · have Hs:=Lib.hid (NoKind.step hf.out (k:=5) (fun h=>hs h.symm))
          have Hq:=str_ne hs
          clear hf hs
          go_wp2
          go_round
          case rel=>exact ⟨6,by omega,by go_num,Hs.out⟩
          case measure=>simp [intOf]
      · by_cases hs:kindName 7=s
        · subst hs
          have He:=Lib.hid (kindNamed_at 6 (by decide))
          clear hf
          go_wp2
          go_ret
          exact ⟨by rw [show kindNamed (kindName 7)=7 from He.out]; rfl,hr⟩
        · have Hs:=Lib.hid (NoKind.step hf.out (k:=6) (fun h=>hs h.symm))
          have Hq:=str_ne hs
          clear hf hs
          go_wp2
          go_round
          case rel=>exact ⟨7,by omega,by go_num,Hs.out⟩
          case measure=>simp [intOf]
      · by_cases hs:kindName 8=s
        · subst hs
          have He:=Lib.hid (kindNamed_at 7 (by decide))
          clear hf
          go_wp2
          go_ret
          exact ⟨by rw [show kindNamed (kindName 8)=8 from He.out]; rfl,hr⟩
        · have Hs:=Lib.hid (NoKind.step hf.out (k:=7) (fun h=>hs h.symm))
          have Hq:=str_ne hs
          clear hf hs
          go_wp2
          go_round
          case rel=>exact ⟨8,by omega,by go_num,Hs.out⟩
          case measure=>simp [intOf]
      · by_cases hs:kindName 9=s
        · subst hs
          have He:=Lib.hid (kindNamed_at 8 (by decide))
          clear hf
          go_wp2
          go_ret
          exact ⟨by rw [show kindNamed (kindName 9)=9 from He.out]; rfl,hr⟩
        · have Hs:=Lib.hid (NoKind.step hf.out (k:=8) (fun h=>hs h.symm))
          have Hq:=str_ne hs
          clear hf hs
          go_wp2
          go_round
          case rel=>exact ⟨9,by omega,by go_num,Hs.out⟩
          case measure=>simp [intOf]
      · by_cases hs:kindName 10=s
        · subst hs
          have He:=Lib.hid (kindNamed_at 9 (by decide))
          clear hf
          go_wp2
          go_ret
          exact ⟨by rw [show kindNamed (kindName 10)=10 from He.out]; rfl,hr⟩
        · have Hs:=Lib.hid (NoKind.step hf.out (k:=9) (fun h=>hs h.symm))
          have Hq:=str_ne hs
          clear hf hs
          go_wp2
          go_round
          case rel=>exact ⟨10,by omega,by go_num,Hs.out⟩
          case measure=>simp [intOf]
      · by_cases hs:kindName 11=s
        · subst hs
          have He:=Lib.hid (kindNamed_at 10 (by decide))
          clear hf
          go_wp2
          go_ret
          exact ⟨by rw [show kindNamed (kindName 11)=11 from He.out]; rfl,hr⟩
        · have Hs:=Lib.hid (NoKind.step hf.out (k:=10) (fun h=>hs h.symm))
          have Hq:=str_ne hs
          clear hf hs
          go_wp2
          go_round
          case rel=>exact ⟨11,by omega,by go_num,Hs.out⟩
          case measure=>simp [intOf]
      · by_cases hs:kindName 12=s
        · subst hs
          have He:=Lib.hid (kindNamed_at 11 (by decide))
          clear hf
          go_wp2
          go_ret
          exact ⟨by rw [show kindNamed (kindName 12)=12 from He.out]; rfl,hr⟩
        · have Hs:=Lib.hid (NoKind.step hf.out (k:=11) (fun h=>hs h.symm))
          have Hq:=str_ne hs
          clear hf hs
          go_wp2
          go_round
          case rel=>exact ⟨12,by omega,by go_num,Hs.out⟩
          case measure=>simp [intOf]
    · have He:Hid (kindNamed s=0):=by
        have hk:k=12:=by omega
        subst hk
        exact kindNamed_none hf.out
      go_wp2
      go_ret
      exact ⟨by rw [He.out]; rfl,hr⟩
end
end Go.Proofs.YtkfmlehhbanopaaGreatDoor
