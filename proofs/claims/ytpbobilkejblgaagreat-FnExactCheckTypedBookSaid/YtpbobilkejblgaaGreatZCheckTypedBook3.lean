/- Lemmas of the proof of CheckTypedBook, part 3. No condition. -/
import Derived.Test.YtpbobilkejblgaaGreatZCheckTypedBook2
namespace Go.Proofs.YtpbobilkejblgaaGreat
set_option linter.unusedVariables false
set_option linter.unusedSimpArgs false
section
open Go.RowKit
set_option maxHeartbeats 1000000 in
theorem eqAgent_v (v u:Value) (x y:DAgent) (w:World) {B B':Nat} (h:RdT agentRd w B v x) (h':RdT agentRd w B' u y) (hB:B≤w.heap.size) (hB':B'≤w.heap.size) :
    Calls Tryz.prog 169 #[v,u] w fun e w'=>e=.returned (.bool (decide (x=y)))∧Below w.heap.size w w':=by
  obtain ⟨cs,rfl,A1,n1,c1,A2,n2,c2,rfl,⟨h1,r1⟩,⟨h2,r2⟩⟩:=h
  obtain ⟨cs,rfl,A1',n1',c1',A2',n2',c2',rfl,⟨h1',r1'⟩,⟨h2',r2'⟩⟩:=h'
  have hb :∀o1 o2,Below w.heap.size w ((w.alloc o1).alloc o2):=fun o1 o2=>((Below.refl _ _).alloc (Nat.le_refl _) _).alloc (by simp) _
  by_cases e0:x.kind=y.kind
  · have f0:(x.kind != y.kind)=false:=by simp [e0]
    by_cases e1:x.level=y.level
    · have f1:(x.level != y.level)=false:=by simp [e1]
      by_cases e2:x.value=y.value
      · have f2:(x.value != y.value)=false:=by simp [e2]
        by_cases e3:x.data=y.data
        · have f3:eqL x.data y.data=true:=decide_eq_true e3
          by_cases e4:x.ports=y.ports
          · have f4:eqL x.ports y.ports=true:=decide_eq_true e4
            have He:Hid (decide (x=y)=true):=decide_eq_true (by cases x; cases y; simp_all)
            clear e0 e1 e2 e3 e4
            go_enter Tryz.func169,Tryz.ntmps169
            go_wp2_with fail
            refine (eqInt64S_v _ _ x.data y.data _ (B:=B) (B':=B') ⟨A1,n1,c1,rfl,h1.below intRd_ok ((hb _ _).mono hB),r1⟩ ⟨A1',n1',c1',rfl,h1'.below intRd_ok ((hb _ _).mono hB'),r1'⟩ (Nat.le_trans hB (hb _ _).size) (Nat.le_trans hB' (hb _ _).size)).mono ?_
            rintro e w1 ⟨rfl,q1⟩
            have T:=(hb _ _).trans (q1.mono (hb _ _).size)
            have B1:=blk2_0.below q1 (by simp <;> omega)
            have B2:=blk2_1.below q1 (by simp <;> omega)
            have z1:w.heap.size+1+1≤w1.heap.size:=by have:=q1.size; simpa using this
            clear q1
            have g1:=B1.cell
            have g2:=B2.cell
            go_wp2_with fail
            clear g1 g2
            refine (eqPortS_v _ _ x.ports y.ports _ (B:=B) (B':=B') ⟨A2,n2,c2,rfl,h2.below portRd_ok ((T).mono hB),r2⟩ ⟨A2',n2',c2',rfl,h2'.below portRd_ok ((T).mono hB'),r2'⟩ (Nat.le_trans hB (T).size) (Nat.le_trans hB' (T).size)).mono ?_
            rintro e w2 ⟨rfl,q2⟩
            have T:=T.trans (q2.mono T.size)
            have B1:=B1.below q2 (by omega)
            have B2:=B2.below q2 (by omega)
            have z2:=Nat.le_trans z1 q2.size
            clear q2
            go_wp2_with fail
            go_ret
            exact ⟨by rw [He.out]; rfl,T⟩
          · have f4:eqL x.ports y.ports=false:=decide_eq_false e4
            have He:Hid (decide (x=y)=false):=decide_eq_false (by intro exy; exact e4 (by rw [exy]))
            clear e0 e1 e2 e3 e4
            go_enter Tryz.func169,Tryz.ntmps169
            go_wp2_with fail
            refine (eqInt64S_v _ _ x.data y.data _ (B:=B) (B':=B') ⟨A1,n1,c1,rfl,h1.below intRd_ok ((hb _ _).mono hB),r1⟩ ⟨A1',n1',c1',rfl,h1'.below intRd_ok ((hb _ _).mono hB'),r1'⟩ (Nat.le_trans hB (hb _ _).size) (Nat.le_trans hB' (hb _ _).size)).mono ?_
            rintro e w1 ⟨rfl,q1⟩
            have T:=(hb _ _).trans (q1.mono (hb _ _).size)
            have B1:=blk2_0.below q1 (by simp <;> omega)
            have B2:=blk2_1.below q1 (by simp <;> omega)
            have z1:w.heap.size+1+1≤w1.heap.size:=by have:=q1.size; simpa using this
            clear q1
            have g1:=B1.cell
            have g2:=B2.cell
            go_wp2_with fail
            clear g1 g2
            refine (eqPortS_v _ _ x.ports y.ports _ (B:=B) (B':=B') ⟨A2,n2,c2,rfl,h2.below portRd_ok ((T).mono hB),r2⟩ ⟨A2',n2',c2',rfl,h2'.below portRd_ok ((T).mono hB'),r2'⟩ (Nat.le_trans hB (T).size) (Nat.le_trans hB' (T).size)).mono ?_
            rintro e w2 ⟨rfl,q2⟩
            have T:=T.trans (q2.mono T.size)
            have B1:=B1.below q2 (by omega)
            have B2:=B2.below q2 (by omega)
            have z2:=Nat.le_trans z1 q2.size
            clear q2
            go_wp2_with fail
            go_ret
            exact ⟨by rw [He.out]; rfl,T⟩
        · have f3:eqL x.data y.data=false:=decide_eq_false e3
          have He:Hid (decide (x=y)=false):=decide_eq_false (by intro exy; exact e3 (by rw [exy]))
          clear e0 e1 e2 e3
          go_enter Tryz.func169,Tryz.ntmps169
          go_wp2_with fail
          refine (eqInt64S_v _ _ x.data y.data _ (B:=B) (B':=B') ⟨A1,n1,c1,rfl,h1.below intRd_ok ((hb _ _).mono hB),r1⟩ ⟨A1',n1',c1',rfl,h1'.below intRd_ok ((hb _ _).mono hB'),r1'⟩ (Nat.le_trans hB (hb _ _).size) (Nat.le_trans hB' (hb _ _).size)).mono ?_
          rintro e w1 ⟨rfl,q1⟩
          have T:=(hb _ _).trans (q1.mono (hb _ _).size)
          have B1:=blk2_0.below q1 (by simp <;> omega)
          have B2:=blk2_1.below q1 (by simp <;> omega)
          have z1:w.heap.size+1+1≤w1.heap.size:=by have:=q1.size; simpa using this
          clear q1
          go_wp2_with fail
          go_ret
          exact ⟨by rw [He.out]; rfl,T⟩
      · have f2:(x.value != y.value)=true:=by simp [e2]
        have He:Hid (decide (x=y)=false):=decide_eq_false (by intro exy; exact e2 (by rw [exy]))
        clear e0 e1 e2
        go_enter Tryz.func169,Tryz.ntmps169
        go_wp2_with fail
        go_ret
        exact ⟨by rw [He.out]; rfl,hb _ _⟩
    · have f1:(x.level != y.level)=true:=by simp [e1]
      have He:Hid (decide (x=y)=false):=decide_eq_false (by intro exy; exact e1 (by rw [exy]))
      clear e0 e1
      go_enter Tryz.func169,Tryz.ntmps169
      go_wp2_with fail
      go_ret
      exact ⟨by rw [He.out]; rfl,hb _ _⟩
  · have f0:(x.kind != y.kind)=true:=by simp [e0]
    have He:Hid (decide (x=y)=false):=decide_eq_false (by intro exy; exact e0 (by rw [exy]))
    clear e0
    go_enter Tryz.func169,Tryz.ntmps169
    go_wp2_with fail
    go_ret
    exact ⟨by rw [He.out]; rfl,hb _ _⟩
set_option maxHeartbeats 1000000 in
theorem eqAgentS_v (v u:Value) (xs ys:List DAgent) (w:World) {B B':Nat} (h:RdS agentRd 5 w B v xs) (h':RdS agentRd 5 w B' u ys) (hB:B≤w.heap.size) (hB':B'≤w.heap.size) :
    Calls Tryz.prog 103 #[v,u] w fun e w'=>e=.returned (.bool (eqL xs ys))∧Below w.heap.size w w':=by
  obtain ⟨A,n,c,rfl,hx,hnc,hcm⟩:=h
  obtain ⟨C,m,d,rfl,hy,hmd,hdm⟩:=h'
  unfold maxLen at hcm hdm
  have lx:=Lib.hid hx.len
  have ly:=Lib.hid hy.len
  have hr:=Below.refl w.heap.size w
  by_cases hnm:n=m
  · subst hnm
    go_enter Tryz.func103,Tryz.ntmps103
    go_wp2
    go_loopw [5] (fun i wr=>∃k:Nat,k≤n∧i=.int .i64 k∧Hid (xs.take k=ys.take k)∧Below w.heap.size w wr) (fun i _=>n - (intOf i).toNat)
    case atStart=>exact ⟨0,by omega,rfl,rfl,hr⟩
    case round=>
      obtain ⟨k,hk,rfl,ht,hq⟩:=hrel
      by_cases hlt:k < n
      · have hx':=hx.below agentRd_ok (hq.mono hB)
        have hy':=hy.below agentRd_ok (hq.mono hB')
        obtain ⟨b,off,x,A1,n1,c1,A2,n2,c2,rfl,hb,hxk,hc0,hc1,hc2,hc3,hc4,⟨h1,r1⟩,⟨h2,r2⟩⟩:=hx'.agent hlt
        obtain ⟨b',off',y,A1',n1',c1',A2',n2',c2',rfl,hb',hyk,hc0',hc1',hc2',hc3',hc4',⟨h1',r1'⟩,⟨h2',r2'⟩⟩:=hy'.agent hlt
        have Hxk:=Lib.hid hxk
        have Hyk:=Lib.hid hyk
        clear hxk hyk hx' hy'
        have hzB:B≤wr.drew.heap.size:=Nat.le_trans hB hq.size
        have hzB':B'≤wr.drew.heap.size:=Nat.le_trans hB' hq.size
        by_cases hxy:x=y
        · have hf:decide (x=y)=true:=decide_eq_true hxy
          have Hxy:=Lib.hid hxy
          clear hxy
          go_wp2_with fail
          go_region_with (go_at_call 169; refine (eqAgent_v _ _ x y _ (B:=B) (B':=B') ⟨_,rfl,A1,n1,c1,A2,n2,c2,rfl,⟨h1.drew intRd_ok,r1⟩,⟨h2.drew portRd_ok,r2⟩⟩ ⟨_,rfl,A1',n1',c1',A2',n2',c2',rfl,⟨h1'.drew intRd_ok,r1'⟩,⟨h2'.drew portRd_ok,r2'⟩⟩ hzB hzB').mono ?_; rintro e w1 ⟨rfl,hq1⟩)
          all_goals
            go_wp2_with fail
            go_roundw
            case rel=>exact ⟨k+1,by omega,by go_num,eqL_step Hxk.out Hyk.out ht.out Hxy.out,hq.drew.trans (hq1.mono hq.size)⟩
            case measure=>simp [intOf]; omega
        · have hf:decide (x=y)=false:=decide_eq_false hxy
          have Hno:=Lib.hid (eqL_no Hxk.out Hyk.out hxy)
          clear hxy
          go_wp2_with fail
          go_region_with (go_at_call 169; refine (eqAgent_v _ _ x y _ (B:=B) (B':=B') ⟨_,rfl,A1,n1,c1,A2,n2,c2,rfl,⟨h1.drew intRd_ok,r1⟩,⟨h2.drew portRd_ok,r2⟩⟩ ⟨_,rfl,A1',n1',c1',A2',n2',c2',rfl,⟨h1'.drew intRd_ok,r1'⟩,⟨h2'.drew portRd_ok,r2'⟩⟩ hzB hzB').mono ?_; rintro e w1 ⟨rfl,hq1⟩)
          all_goals
            go_wp2_with fail
            go_ret
            exact ⟨by rw [Hno.out]; rfl,hq.drew.trans (hq1.mono hq.size)⟩
      · have Hyes:=Lib.hid (eqL_yes (k:=k) ht.out (by have:=lx.out; omega) (by have:=ly.out; omega))
        go_wp2
        go_ret
        exact ⟨by rw [Hyes.out]; rfl,hq⟩
  · have Hno:=Lib.hid (eqL_len (xs:=xs) (ys:=ys) (by have:=lx.out; have:=ly.out; omega))
    have hf:((n:Int) != (m:Int))=true:=by simp; omega
    go_enter Tryz.func103,Tryz.ntmps103
    go_wp2
    go_ret
    exact ⟨by rw [Hno.out]; rfl,hr⟩
set_option maxHeartbeats 1000000 in
theorem eqNet_v (v u:Value) (x y:DNet) (w:World) {B B':Nat} (h:RdT netRd w B v x) (h':RdT netRd w B' u y) (hB:B≤w.heap.size) (hB':B'≤w.heap.size) :
    Calls Tryz.prog 49 #[v,u] w fun e w'=>e=.returned (.bool (decide (x=y)))∧Below w.heap.size w w':=by
  obtain ⟨cs,rfl,A1,n1,c1,rfl,⟨h1,r1⟩⟩:=h
  obtain ⟨cs,rfl,A1',n1',c1',rfl,⟨h1',r1'⟩⟩:=h'
  have hb :∀o1 o2,Below w.heap.size w ((w.alloc o1).alloc o2):=fun o1 o2=>((Below.refl _ _).alloc (Nat.le_refl _) _).alloc (by simp) _
  by_cases e0:x.agents=y.agents
  · have f0:eqL x.agents y.agents=true:=decide_eq_true e0
    have He:Hid (decide (x=y)=true):=decide_eq_true (by cases x; cases y; simp_all)
    clear e0
    go_enter Tryz.func49,Tryz.ntmps49
    go_wp2_with fail
    refine (eqAgentS_v _ _ x.agents y.agents _ (B:=B) (B':=B') ⟨A1,n1,c1,rfl,h1.below agentRd_ok ((hb _ _).mono hB),r1⟩ ⟨A1',n1',c1',rfl,h1'.below agentRd_ok ((hb _ _).mono hB'),r1'⟩ (Nat.le_trans hB (hb _ _).size) (Nat.le_trans hB' (hb _ _).size)).mono ?_
    rintro e w1 ⟨rfl,q1⟩
    have T:=(hb _ _).trans (q1.mono (hb _ _).size)
    have B1:=blk2_0.below q1 (by simp <;> omega)
    have B2:=blk2_1.below q1 (by simp <;> omega)
    have z1:w.heap.size+1+1≤w1.heap.size:=by have:=q1.size; simpa using this
    clear q1
    go_wp2_with fail
    go_ret
    exact ⟨by rw [He.out]; rfl,T⟩
  · have f0:eqL x.agents y.agents=false:=decide_eq_false e0
    have He:Hid (decide (x=y)=false):=decide_eq_false (by intro exy; exact e0 (by rw [exy]))
    clear e0
    go_enter Tryz.func49,Tryz.ntmps49
    go_wp2_with fail
    refine (eqAgentS_v _ _ x.agents y.agents _ (B:=B) (B':=B') ⟨A1,n1,c1,rfl,h1.below agentRd_ok ((hb _ _).mono hB),r1⟩ ⟨A1',n1',c1',rfl,h1'.below agentRd_ok ((hb _ _).mono hB'),r1'⟩ (Nat.le_trans hB (hb _ _).size) (Nat.le_trans hB' (hb _ _).size)).mono ?_
    rintro e w1 ⟨rfl,q1⟩
    have T:=(hb _ _).trans (q1.mono (hb _ _).size)
    have B1:=blk2_0.below q1 (by simp <;> omega)
    have B2:=blk2_1.below q1 (by simp <;> omega)
    have z1:w.heap.size+1+1≤w1.heap.size:=by have:=q1.size; simpa using this
    clear q1
    go_wp2_with fail
    go_ret
    exact ⟨by rw [He.out]; rfl,T⟩
end
section
open Go.RowKit
def szNetM (x:DNet) (left:Int):Option Int:=(mustP (0≤left∧left≤1048576)).bind fun _=>some (szL left (szNet x))
def eqNetM (x y:DNet):Option Bool:=some (decide (x=y))
theorem c_szNetM (x:DNet) (left r:Int) (hm:szNetM x left=some r) (v:Value) (w:World) (h:St netRd w v x) :
    Calls Tryz.prog 38 #[v,.int .i64 left] w fun e w'=>e=.returned (.int .i64 r)∧Below w.heap.size w w':=by
  unfold szNetM at hm
  obtain ⟨_,m,hm⟩:=bnd hm
  obtain ⟨m1,m2⟩:=mustP_some m
  injection hm with hm
  subst hm
  exact szNet_v v x left w h (Nat.le_refl _) m1 m2
theorem c_eqNetM (x y:DNet) (r:Bool) (hm:eqNetM x y=some r) (v u:Value) (w:World) (h:St netRd w v x) (h':St netRd w u y) :
    Calls Tryz.prog 49 #[v,u] w fun e w'=>e=.returned (.bool r)∧Below w.heap.size w w':=by
  injection hm with hm
  subst hm
  exact eqNet_v v u x y w h h' (Nat.le_refl _) (Nat.le_refl _)
end
section
open Go.RowKit
set_option maxRecDepth 100000
noncomputable def m_laws_toPort (d0:DPort):Option DPort:=
  some (⟨d0.agent,d0.slot⟩:DPort)
set_option maxHeartbeats 2000000 in
theorem c_m_laws_toPort (d0:DPort) (r:DPort) (hm:m_laws_toPort d0=some r)  (w:World)  :
    Calls Tryz.prog 235 #[.agg #[.int .i64 d0.agent,.int .i64 d0.slot]] w fun e w'=>e=.returned (.agg #[.int .i64 r.agent,.int .i64 r.slot])∧Below w.heap.size w w':=by
  have T:=Below.refl w.heap.size w
  unfold m_laws_toPort at hm
  refine enter 11 Tryz.func235 rfl rfl rfl ?_
  intro f hf
  have s0:f 0=.agg #[.int .i64 d0.agent,.int .i64 d0.slot]:=hf 0 _ rfl
  refine wp_seq<|wp_rl rfl ?_
  refine RL.box rfl s0 (fun w1 B2 hb3 szw1=>?_)
  replace B2:Blk w1 w.heap.size 289 #[.int .i64 d0.agent,.int .i64 d0.slot]:=B2
  have GB2:w.heap.size≤w.heap.size:=T.size
  have T:=Tt T hb3
  refine RL.alloc (z:=.agg #[.int .i64 0,.int .i64 0]) rfl (by kernel_rfl) (fun w5 B6 hb7 szw5=>?_)
  replace B6:Blk w5 w1.heap.size 161 #[.int .i64 0,.int .i64 0]:=B6
  have GB6:w.heap.size≤w1.heap.size:=T.size
  have Eob8_ob4:=Nat.ne_of_lt B2.lt
  have B2:=blkT B2 hb7
  have T:=Tt T hb7
  refine RL.nil<|then_n<|wp_seq<|wp_rl rfl ?_
  refine RL.alloc (z:=.agg #[.int .i64 0,.int .i64 0]) rfl (by kernel_rfl) (fun w9 B10 hb11 szw9=>?_)
  replace B10:Blk w9 w5.heap.size 161 #[.int .i64 0,.int .i64 0]:=B10
  have GB10:w.heap.size≤w5.heap.size:=T.size
  have Eob12_ob4:=Nat.ne_of_lt B2.lt
  have Eob12_ob8:=Nat.ne_of_lt B6.lt
  have B2:=blkT B2 hb11
  have B6:=blkT B6 hb11
  have T:=Tt T hb11
  refine RL.nil<|then_n<|wp_seq<|wp_rl rfl<|RL.y rfl (Y.fieldAddr (off:=0) rfl (by kernel_rfl))<|RL.y rfl (Y.load (v:=.int .i64 d0.agent) rfl (by kernel_rfl) (eqC (blkCell B2 (i:=0) rfl)))<|RL.y rfl (Y.fieldAddr (off:=0) rfl (by kernel_rfl)) ?_
  refine RL.store (v:=.int .i64 d0.agent) (cs':=#[.int .i64 d0.agent,.int .i64 0]) rfl rfl rfl B10 (by kernel_rfl) (by rfl) (by rfl) (by rfl) (fun w13 B14 ho15=>?_)
  have szw13:=ho15.size
  have B2:=B2.only_ ho15 (by intro hin; simp at hin; exact Eob12_ob4 hin)
  have B6:=B6.only_ ho15 (by intro hin; simp at hin; exact Eob12_ob8 hin)
  have T:=T.trans (ho15.below (by first|(simp; done)|(simp; omega)))
  refine RL.nil<|then_n<|wp_seq<|wp_rl rfl<|RL.y rfl (Y.fieldAddr (off:=1) rfl (by kernel_rfl))<|RL.y rfl (Y.load (v:=.int .i64 d0.slot) rfl (by kernel_rfl) (eqC (blkCell B2 (i:=1) rfl)))<|RL.y rfl (Y.fieldAddr (off:=1) rfl (by kernel_rfl)) ?_
  refine RL.store (v:=.int .i64 d0.slot) (cs':=#[.int .i64 d0.agent,.int .i64 d0.slot]) rfl rfl rfl B14 (by kernel_rfl) (by rfl) (by rfl) (by rfl) (fun w16 B17 ho18=>?_)
  have szw16:=ho18.size
  have B2:=B2.only_ ho18 (by intro hin; simp at hin; exact Eob12_ob4 hin)
  have B6:=B6.only_ ho18 (by intro hin; simp at hin; exact Eob12_ob8 hin)
  have T:=T.trans (ho18.below (by first|(simp; done)|(simp; omega)))
  refine RL.nil<|then_n<|wp_seq<|wp_rl rfl<|RL.y rfl (Y.loadN (cs:=[.int .i64 d0.agent,.int .i64 d0.slot]) rfl (by kernel_rfl) (cells2 (eqC (blkCell B17 (i:=0) rfl)) (eqC (blkCell B17 (i:=1) rfl)))) ?_
  refine RL.store (v:=.agg #[.int .i64 d0.agent,.int .i64 d0.slot]) (cs':=#[.int .i64 d0.agent,.int .i64 d0.slot]) rfl rfl rfl B6 (by kernel_rfl) (by rfl) (by rfl) (by rfl) (fun w19 B20 ho21=>?_)
  have szw19:=ho21.size
  have B17:=B17.only_ ho21 (by intro hin; simp at hin; exact Eob12_ob8.symm hin)
  have T:=T.trans (ho21.below (by first|(simp; done)|(simp; omega)))
  refine RL.nil<|then_n<|wp_ret ?_
  obtain rfl:=sj hm
  exact (retc (cs:=[.int .i64 d0.agent,.int .i64 d0.slot]) rfl rfl rfl (by kernel_rfl) (blkCells B20) ⟨rfl,T⟩)
noncomputable def m_laws_toPortS_A1 (xs8:List DPort):Option (List DPort):=
  some xs8
noncomputable def m_laws_toPortS_B1 (d0:List DPort) (rec1:List DPort→Int→Option (List DPort)) (K1:List DPort→Option (List DPort)) (xs10:List DPort) (i11:Int):Option (List DPort):=
  (bif (decide (i11 < (d0.length:Int))) then ((getI d0 i11).bind fun x14=>((m_laws_toPort x14).bind fun y23=>((getI xs10 i11).bind fun x29=>(rec1 (setI xs10 i11 y23) (i11+1))))) else (K1 xs10))
noncomputable def m_laws_toPortS_L1 (d0:List DPort) (K1:List DPort→Option (List DPort)):Nat→List DPort→Int→Option (List DPort)
  |0,_,_=>none
  |g+1,xs10,i11=>m_laws_toPortS_B1 d0 (m_laws_toPortS_L1 d0 K1 g) K1 xs10 i11
noncomputable def m_laws_toPortS (d0:List DPort):Option (List DPort):=
  ((mustP (d0.length≤4294967296)).bind fun _=>(m_laws_toPortS_L1 d0 m_laws_toPortS_A1 (d0.length+1) (List.replicate d0.length ((⟨0,0⟩:DPort):DPort)) 0))
set_option maxHeartbeats 2000000 in
theorem c_m_laws_toPortS (d0:List DPort) (r:List DPort) (hm:m_laws_toPortS d0=some r) (v0:Value) (w:World) (hv0:Sl portRd 2 w v0 d0) :
    Calls Tryz.prog 201 #[v0] w fun e w'=>(∃(v0:Value),e=.returned (v0)∧OwF 161 encPort 2 w' w.heap.size v0 r)∧Below w.heap.size w w':=by
  obtain ⟨Aa0,na0,ca0,rfl,ha0,ra0⟩:=hv0
  have ea0:=ha0.len; subst ea0
  have qa0:=len_le ra0
  have T:=Below.refl w.heap.size w
  unfold m_laws_toPortS at hm
  refine enter 23 Tryz.func201 rfl rfl rfl ?_
  intro f hf
  have s0:f 0=.slice Aa0 d0.length ca0:=hf 0 _ rfl
  refine wp_seq<|wp_rs rfl<|RQ.y rfl (Y.assign (v:=.slice none 0 0) rfl)<|RQ.nil<|then_n<|wp_seq<|wp_rl rfl<|RL.y rfl (Y.move (v:=.slice Aa0 d0.length ca0) s0)<|RL.y rfl (Y.len (by kernel_rfl) rfl) ?_
  obtain ⟨_,m1,hm⟩:=bnd hm
  have hk2:=mustP_some m1
  refine RL.make (enc:=encPort) (z0:=((⟨0,0⟩:DPort):DPort)) (n:=d0.length) app_impl_Port (by decide) rfl rfl rfl rfl hk2 (fun w3 G4 hb5 szw3=>?_)
  replace G4:=OwF.mono G4 T.size
  have T:=Tt T hb5
  refine RL.y rfl (Y.assign (v:=.slice (some ⟨w.heap.size,0,none⟩) d0.length d0.length) rfl)<|RL.nil<|then_n<|wp_seq<|wp_seq<|wp_rs rfl<|RQ.y rfl (Y.assign (v:=.int .i64 0) rfl)<|RQ.nil<|then_n<|wp_block ?_
  obtain ⟨K1,hK1,hm⟩ :∃K,K=m_laws_toPortS_A1∧m_laws_toPortS_L1 d0 K (d0.length+1) (List.replicate d0.length ((⟨0,0⟩:DPort):DPort)) 0=some r:=⟨_,rfl,hm⟩
  refine wp_loopX (fun g f w'=>∃(xs10:List DPort) (i11:Int) (uxs10:Value),f 0=.slice Aa0 d0.length ca0∧f 3=uxs10∧OwF 161 encPort 2 w' w.heap.size uxs10 xs10∧f 4=.int .i64 i11∧0≤i11∧Below w.heap.size w w'∧m_laws_toPortS_L1 d0 K1 g xs10 i11=some r) 0 (fun f w'=>∃(xs8:List DPort) (uxs8:Value),f 3=uxs8∧OwF 161 encPort 2 w' w.heap.size uxs8 xs8∧Below w.heap.size w w'∧m_laws_toPortS_A1 xs8=some r) (d0.length+1) ⟨(List.replicate d0.length ((⟨0,0⟩:DPort):DPort)),0,(.slice (some ⟨w.heap.size,0,none⟩) d0.length d0.length),s0,rfl,G4,rfl,(by omega),T,hm⟩ ?_ ?_
  ·rintro f w9 ⟨xs8,uxs8,s3_1x,Guxs8,T,hm⟩
   unfold m_laws_toPortS_A1 at hm
   refine blk_hit (then_n ?_)
   refine wp_seq<|wp_rs rfl<|RQ.y rfl (Y.move (v:=uxs8) s3_1x)<|RQ.y rfl (Y.assign (v:=uxs8) rfl)<|RQ.nil<|then_n<|wp_ret ?_
   obtain rfl:=sj hm
   exact (ret1 rfl rfl rfl ⟨⟨_,rfl,Guxs8⟩,T⟩)
  rintro g f w12 ⟨xs10,i11,uxs10,s0_1,s3_1,Guxs10,s4_1,nn4_1,T,hm⟩
  rcases g with _|g
  ·simp only [m_laws_toPortS_L1] at hm; cases hm
  obtain ⟨rec1,hrec1,hm⟩ :∃z,z=m_laws_toPortS_L1 d0 K1 g∧m_laws_toPortS_B1 d0 z K1 xs10 i11=some r:=⟨_,rfl,hm⟩
  unfold m_laws_toPortS_B1 at hm
  refine wp_seq<|wp_seq<|wp_rs rfl<|RQ.y rfl (Y.move (v:=.int .i64 i11) s4_1)<|RQ.y rfl (Y.move (v:=.slice Aa0 d0.length ca0) s0_1)<|RQ.y rfl (Y.len (by kernel_rfl) rfl)<|RQ.y rfl (Y.binI (v:=.bool (decide (i11 < (d0.length:Int)))) rfl rfl rfl)<|RQ.nil<|then_n ?_
  rcases bcases (decide (i11 < (d0.length:Int))) with c13|c13
  ·replace hm:=cF c13 hm
   have pc13:=of_decide_eq_false c13
   refine cond_f rfl (vb rfl c13)<|wp_exit ?_
   exact (then_x (then_x (hit_x ⟨_,rfl,⟨xs10,(uxs10),s3_1,Guxs10,T,(by rw [hK1] at hm; exact hm)⟩⟩)))
  replace hm:=cT c13 hm
  have pc13:=of_decide_eq_true c13
  refine cond_t rfl (vb rfl c13)<|wp_skip<|then_n<|wp_seq<|wp_block<|wp_rl rfl<|RL.y rfl (Y.move (v:=uxs10) s3_1)<|RL.y rfl (Y.move (v:=.int .i64 i11) s4_1)<|RL.y rfl (Y.move (v:=.slice Aa0 d0.length ca0) s0_1)<|RL.y rfl (Y.move (v:=.int .i64 i11) s4_1) ?_
  obtain ⟨x14,hx17,hm⟩:=bnd hm
  obtain ⟨k15,hk18,hl19,hx17⟩:=getI_some hx17
  obtain ⟨b21,o22,rfl,hbb21⟩:=ha0.addr (by omega)
  obtain ⟨cs16,hRcs16,hc20⟩:=ha0.el hx17
  have hScs16:=hRcs16
  obtain rfl:=hRcs16
  refine RL.y rfl (Y.indexAddr (m:=k15) (sz:=2) rfl rfl hk18 hl19 (by kernel_rfl))<|RL.y rfl (Y.loadN (cs:=[.int .i64 x14.agent,.int .i64 x14.slot]) rfl (by kernel_rfl) (cells2 (eqC (cellT T (hc20 0 _ rfl))) (eqC (cellT T (hc20 1 _ rfl))))) ?_
  obtain ⟨y23,e24,hm⟩:=bnd hm
  refine RL.call rfl (am1 rfl) (by kernel_rfl) ((c_m_laws_toPort x14 _ e24  _ ).mono ?_)
  rintro _ w25 ⟨rfl,hb26⟩
  refine ⟨_,rfl,?_⟩
  have szw25:=hb26.size
  have Guxs10:=OwF.below Guxs10 hb26
  have T:=Tt T hb26
  obtain ⟨A27,c28,rfl⟩:=OwF.form Guxs10
  have qbA27:=OwF.bound Guxs10
  obtain ⟨x29,hx31,hm⟩:=bnd hm
  obtain ⟨k30,hk32,hl33,hx31⟩:=getI_some hx31
  obtain ⟨b34,rfl⟩:=OwF.addr0 Guxs10 (by omega)
  refine RL.y rfl (Y.indexAddr (m:=k30) (sz:=2) rfl rfl hk32 hl33 (by kernel_rfl)) ?_
  refine RL.storeF (k:=k30) (a:=y23) fPort rfl rfl rfl Guxs10 hl33 rfl (by kernel_rfl) (fun w35 G36 ho37=>?_)
  have szw35:=ho37.size
  have T:=T.trans (ho37.below (by intro b hb; simp at hb; subst hb; exact OwF.lo_ Guxs10 _ rfl))
  have G36:OwF 161 encPort 2 w35 w.heap.size (.slice (some ⟨b34,0,none⟩) xs10.length c28) (setI xs10 i11 y23):=by rw [setI_eq hk32]; exact G36
  have hx38:(setI xs10 i11 y23)[k30]? = some y23:=setI_at hk32 hl33
  have hl39:=lt_of_some hx38
  refine RL.nil ?_
  refine blk_n (then_n ?_)
  refine wp_rs rfl<|RQ.y rfl (Y.move (v:=.int .i64 i11) s4_1)<|RQ.y rfl (Y.binI rfl rfl (binI_add (m:=i11) (by omega)))<|RQ.y rfl (Y.assign (v:=.int .i64 (i11+1)) rfl)<|RQ.nil ?_
  exact (then_n ⟨g,_,Nat.lt_succ_self _,rfl,⟨(setI xs10 i11 y23),(i11+1),(.slice (some ⟨b34,0,none⟩) xs10.length c28),s0_1,s3_1,G36,rfl,(by omega),T,(by rw [← hrec1]; exact hm)⟩⟩)
noncomputable def m_laws_toInt64S_A1 (xs8:List Int):Option (List Int):=
  some xs8
noncomputable def m_laws_toInt64S_B1 (d0:List Int) (rec1:List Int→Int→Option (List Int)) (K1:List Int→Option (List Int)) (xs10:List Int) (i11:Int):Option (List Int):=
  (bif (decide (i11 < (d0.length:Int))) then ((getI d0 i11).bind fun x14=>((getI xs10 i11).bind fun x25=>(rec1 (setI xs10 i11 x14) (i11+1)))) else (K1 xs10))
noncomputable def m_laws_toInt64S_L1 (d0:List Int) (K1:List Int→Option (List Int)):Nat→List Int→Int→Option (List Int)
  |0,_,_=>none
  |g+1,xs10,i11=>m_laws_toInt64S_B1 d0 (m_laws_toInt64S_L1 d0 K1 g) K1 xs10 i11
noncomputable def m_laws_toInt64S (d0:List Int):Option (List Int):=
  ((mustP (d0.length≤4294967296)).bind fun _=>(m_laws_toInt64S_L1 d0 m_laws_toInt64S_A1 (d0.length+1) (List.replicate d0.length 0) 0))
set_option maxHeartbeats 2000000 in
theorem c_m_laws_toInt64S (d0:List Int) (r:List Int) (hm:m_laws_toInt64S d0=some r) (v0:Value) (w:World) (hv0:Sl intRd 1 w v0 d0) :
    Calls Tryz.prog 115 #[v0] w fun e w'=>(∃(v0:Value),e=.returned (v0)∧OwF 2 encI 1 w' w.heap.size v0 r)∧Below w.heap.size w w':=by
  obtain ⟨Aa0,na0,ca0,rfl,ha0,ra0⟩:=hv0
  have ea0:=ha0.len; subst ea0
  have qa0:=len_le ra0
  have T:=Below.refl w.heap.size w
  unfold m_laws_toInt64S at hm
  refine enter 22 Tryz.func115 rfl rfl rfl ?_
  intro f hf
  have s0:f 0=.slice Aa0 d0.length ca0:=hf 0 _ rfl
  refine wp_seq<|wp_rs rfl<|RQ.y rfl (Y.assign (v:=.slice none 0 0) rfl)<|RQ.nil<|then_n<|wp_seq<|wp_rl rfl<|RL.y rfl (Y.move (v:=.slice Aa0 d0.length ca0) s0)<|RL.y rfl (Y.len (by kernel_rfl) rfl) ?_
  obtain ⟨_,m1,hm⟩:=bnd hm
  have hk2:=mustP_some m1
  refine RL.make (enc:=encI) (z0:=0) (n:=d0.length) app_int64 (by decide) rfl rfl rfl rfl hk2 (fun w3 G4 hb5 szw3=>?_)
  replace G4:=OwF.mono G4 T.size
  have T:=Tt T hb5
  refine RL.y rfl (Y.assign (v:=.slice (some ⟨w.heap.size,0,none⟩) d0.length d0.length) rfl)<|RL.nil<|then_n<|wp_seq<|wp_seq<|wp_rs rfl<|RQ.y rfl (Y.assign (v:=.int .i64 0) rfl)<|RQ.nil<|then_n<|wp_block ?_
  obtain ⟨K1,hK1,hm⟩ :∃K,K=m_laws_toInt64S_A1∧m_laws_toInt64S_L1 d0 K (d0.length+1) (List.replicate d0.length 0) 0=some r:=⟨_,rfl,hm⟩
  refine wp_loopX (fun g f w'=>∃(xs10:List Int) (i11:Int) (uxs10:Value),f 0=.slice Aa0 d0.length ca0∧f 3=uxs10∧OwF 2 encI 1 w' w.heap.size uxs10 xs10∧f 4=.int .i64 i11∧0≤i11∧Below w.heap.size w w'∧m_laws_toInt64S_L1 d0 K1 g xs10 i11=some r) 0 (fun f w'=>∃(xs8:List Int) (uxs8:Value),f 3=uxs8∧OwF 2 encI 1 w' w.heap.size uxs8 xs8∧Below w.heap.size w w'∧m_laws_toInt64S_A1 xs8=some r) (d0.length+1) ⟨(List.replicate d0.length 0),0,(.slice (some ⟨w.heap.size,0,none⟩) d0.length d0.length),s0,rfl,G4,rfl,(by omega),T,hm⟩ ?_ ?_
  ·rintro f w9 ⟨xs8,uxs8,s3_1x,Guxs8,T,hm⟩
   unfold m_laws_toInt64S_A1 at hm
   refine blk_hit (then_n ?_)
   refine wp_seq<|wp_rs rfl<|RQ.y rfl (Y.move (v:=uxs8) s3_1x)<|RQ.y rfl (Y.assign (v:=uxs8) rfl)<|RQ.nil<|then_n<|wp_ret ?_
   obtain rfl:=sj hm
   exact (ret1 rfl rfl rfl ⟨⟨_,rfl,Guxs8⟩,T⟩)
  rintro g f w12 ⟨xs10,i11,uxs10,s0_1,s3_1,Guxs10,s4_1,nn4_1,T,hm⟩
  rcases g with _|g
  ·simp only [m_laws_toInt64S_L1] at hm; cases hm
  obtain ⟨rec1,hrec1,hm⟩ :∃z,z=m_laws_toInt64S_L1 d0 K1 g∧m_laws_toInt64S_B1 d0 z K1 xs10 i11=some r:=⟨_,rfl,hm⟩
  unfold m_laws_toInt64S_B1 at hm
  refine wp_seq<|wp_seq<|wp_rs rfl<|RQ.y rfl (Y.move (v:=.int .i64 i11) s4_1)<|RQ.y rfl (Y.move (v:=.slice Aa0 d0.length ca0) s0_1)<|RQ.y rfl (Y.len (by kernel_rfl) rfl)<|RQ.y rfl (Y.binI (v:=.bool (decide (i11 < (d0.length:Int)))) rfl rfl rfl)<|RQ.nil<|then_n ?_
  rcases bcases (decide (i11 < (d0.length:Int))) with c13|c13
  ·replace hm:=cF c13 hm
   have pc13:=of_decide_eq_false c13
   refine cond_f rfl (vb rfl c13)<|wp_exit ?_
   exact (then_x (then_x (hit_x ⟨_,rfl,⟨xs10,(uxs10),s3_1,Guxs10,T,(by rw [hK1] at hm; exact hm)⟩⟩)))
  replace hm:=cT c13 hm
  have pc13:=of_decide_eq_true c13
  refine cond_t rfl (vb rfl c13)<|wp_skip<|then_n<|wp_seq<|wp_block<|wp_rl rfl<|RL.y rfl (Y.move (v:=uxs10) s3_1)<|RL.y rfl (Y.move (v:=.int .i64 i11) s4_1)<|RL.y rfl (Y.move (v:=.slice Aa0 d0.length ca0) s0_1)<|RL.y rfl (Y.move (v:=.int .i64 i11) s4_1) ?_
  obtain ⟨x14,hx17,hm⟩:=bnd hm
  obtain ⟨k15,hk18,hl19,hx17⟩:=getI_some hx17
  obtain ⟨b21,o22,rfl,hbb21⟩:=ha0.addr (by omega)
  obtain ⟨cs16,hRcs16,hc20⟩:=ha0.el hx17
  have hScs16:=hRcs16
  obtain rfl:=hRcs16
  refine RL.y rfl (Y.indexAddr (m:=k15) (sz:=1) rfl rfl hk18 hl19 (by kernel_rfl))<|RL.y rfl (Y.load (v:=.int .i64 x14) rfl (by kernel_rfl) (eqC (cellT T (hc20 0 _ rfl)))) ?_
  obtain ⟨A23,c24,rfl⟩:=OwF.form Guxs10
  have qbA23:=OwF.bound Guxs10
  obtain ⟨x25,hx27,hm⟩:=bnd hm
  obtain ⟨k26,hk28,hl29,hx27⟩:=getI_some hx27
  obtain ⟨b30,rfl⟩:=OwF.addr0 Guxs10 (by omega)
  refine RL.y rfl (Y.indexAddr (m:=k26) (sz:=1) rfl rfl hk28 hl29 (by kernel_rfl)) ?_
  refine RL.storeF (k:=k26) (a:=x14) fI rfl rfl rfl Guxs10 hl29 rfl (by kernel_rfl) (fun w31 G32 ho33=>?_)
  have szw31:=ho33.size
  have T:=T.trans (ho33.below (by intro b hb; simp at hb; subst hb; exact OwF.lo_ Guxs10 _ rfl))
  have G32:OwF 2 encI 1 w31 w.heap.size (.slice (some ⟨b30,0,none⟩) xs10.length c24) (setI xs10 i11 x14):=by rw [setI_eq hk28]; exact G32
  have hx34:(setI xs10 i11 x14)[k26]? = some x14:=setI_at hk28 hl29
  have hl35:=lt_of_some hx34
  refine RL.nil ?_
  refine blk_n (then_n ?_)
  refine wp_rs rfl<|RQ.y rfl (Y.move (v:=.int .i64 i11) s4_1)<|RQ.y rfl (Y.binI rfl rfl (binI_add (m:=i11) (by omega)))<|RQ.y rfl (Y.assign (v:=.int .i64 (i11+1)) rfl)<|RQ.nil ?_
  exact (then_n ⟨g,_,Nat.lt_succ_self _,rfl,⟨(setI xs10 i11 x14),(i11+1),(.slice (some ⟨b30,0,none⟩) xs10.length c24),s0_1,s3_1,G32,rfl,(by omega),T,(by rw [← hrec1]; exact hm)⟩⟩)
noncomputable def m_laws_toAgent (d0:DAgent):Option DAgent:=
  ((m_laws_toInt64S d0.data).bind fun y24=>((m_laws_toPortS d0.ports).bind fun y36=>some (⟨d0.kind,d0.level,d0.value,y24,y36⟩:DAgent)))
set_option maxHeartbeats 2000000 in
theorem c_m_laws_toAgent (d0:DAgent) (r:DAgent) (hm:m_laws_toAgent d0=some r) (v0:Value) (w:World) (hv0:St agentRd w v0 d0) :
    Calls Tryz.prog 146 #[v0] w fun e w'=>(∃(v0:Value) (v1:Value),e=.returned (.agg #[.int .i64 r.kind,.int .i64 r.level,.int .i64 r.value,v0,v1])∧OwF 2 encI 1 w' w.heap.size v0 r.data∧OwF 161 encPort 2 w' w.heap.size v1 r.ports∧Dj v0 v1)∧Below w.heap.size w w':=by
  obtain ⟨csa0,rfl,⟨A1,n1,c1,A2,n2,c2,rfl,⟨h1,r1⟩,⟨h2,r2⟩⟩⟩:=hv0
  have e1:=h1.len; subst e1
  have q1:=len_le r1
  have e2:=h2.len; subst e2
  have q2:=len_le r2
  have T:=Below.refl w.heap.size w
  unfold m_laws_toAgent at hm
  refine enter 22 Tryz.func146 rfl rfl rfl ?_
  intro f hf
  have s0:f 0=.agg #[.int .i64 d0.kind,.int .i64 d0.level,.int .i64 d0.value,.slice A1 d0.data.length c1,.slice A2 d0.ports.length c2]:=hf 0 _ rfl
  refine wp_seq<|wp_rl rfl ?_
  refine RL.box rfl s0 (fun w3 B4 hb5 szw3=>?_)
  replace B4:Blk w3 w.heap.size 222 #[.int .i64 d0.kind,.int .i64 d0.level,.int .i64 d0.value,.slice A1 d0.data.length c1,.slice A2 d0.ports.length c2]:=B4
  have GB4:w.heap.size≤w.heap.size:=T.size
  have T:=Tt T hb5
  refine RL.alloc (z:=.agg #[.int .i64 0,.int .i64 0,.int .i64 0,.slice none 0 0,.slice none 0 0]) rfl (by kernel_rfl) (fun w7 B8 hb9 szw7=>?_)
  replace B8:Blk w7 w3.heap.size 159 #[.int .i64 0,.int .i64 0,.int .i64 0,.slice none 0 0,.slice none 0 0]:=B8
  have GB8:w.heap.size≤w3.heap.size:=T.size
  have Eob10_ob6:=Nat.ne_of_lt B4.lt
  have B4:=blkT B4 hb9
  have T:=Tt T hb9
  refine RL.nil<|then_n<|wp_seq<|wp_rl rfl ?_
  refine RL.alloc (z:=.agg #[.int .i64 0,.int .i64 0,.int .i64 0,.slice none 0 0,.slice none 0 0]) rfl (by kernel_rfl) (fun w11 B12 hb13 szw11=>?_)
  replace B12:Blk w11 w7.heap.size 159 #[.int .i64 0,.int .i64 0,.int .i64 0,.slice none 0 0,.slice none 0 0]:=B12
  have GB12:w.heap.size≤w7.heap.size:=T.size
  have Eob14_ob6:=Nat.ne_of_lt B4.lt
  have Eob14_ob10:=Nat.ne_of_lt B8.lt
  have B4:=blkT B4 hb13
  have B8:=blkT B8 hb13
  have T:=Tt T hb13
  refine RL.nil<|then_n<|wp_seq<|wp_rl rfl<|RL.y rfl (Y.fieldAddr (off:=0) rfl (by kernel_rfl))<|RL.y rfl (Y.load (v:=.int .i64 d0.kind) rfl (by kernel_rfl) (eqC (blkCell B4 (i:=0) rfl)))<|RL.y rfl (Y.fieldAddr (off:=0) rfl (by kernel_rfl)) ?_
  refine RL.store (v:=.int .i64 d0.kind) (cs':=#[.int .i64 d0.kind,.int .i64 0,.int .i64 0,.slice none 0 0,.slice none 0 0]) rfl rfl rfl B12 (by kernel_rfl) (by rfl) (by rfl) (by rfl) (fun w15 B16 ho17=>?_)
  have szw15:=ho17.size
  have B4:=B4.only_ ho17 (by intro hin; simp at hin; exact Eob14_ob6 hin)
  have B8:=B8.only_ ho17 (by intro hin; simp at hin; exact Eob14_ob10 hin)
  have T:=T.trans (ho17.below (by first|(simp; done)|(simp; omega)))
  refine RL.nil<|then_n<|wp_seq<|wp_rl rfl<|RL.y rfl (Y.fieldAddr (off:=1) rfl (by kernel_rfl))<|RL.y rfl (Y.load (v:=.int .i64 d0.level) rfl (by kernel_rfl) (eqC (blkCell B4 (i:=1) rfl)))<|RL.y rfl (Y.fieldAddr (off:=1) rfl (by kernel_rfl)) ?_
  refine RL.store (v:=.int .i64 d0.level) (cs':=#[.int .i64 d0.kind,.int .i64 d0.level,.int .i64 0,.slice none 0 0,.slice none 0 0]) rfl rfl rfl B16 (by kernel_rfl) (by rfl) (by rfl) (by rfl) (fun w18 B19 ho20=>?_)
  have szw18:=ho20.size
  have B4:=B4.only_ ho20 (by intro hin; simp at hin; exact Eob14_ob6 hin)
  have B8:=B8.only_ ho20 (by intro hin; simp at hin; exact Eob14_ob10 hin)
  have T:=T.trans (ho20.below (by first|(simp; done)|(simp; omega)))
  refine RL.nil<|then_n<|wp_seq<|wp_rl rfl<|RL.y rfl (Y.fieldAddr (off:=2) rfl (by kernel_rfl))<|RL.y rfl (Y.load (v:=.int .i64 d0.value) rfl (by kernel_rfl) (eqC (blkCell B4 (i:=2) rfl)))<|RL.y rfl (Y.fieldAddr (off:=2) rfl (by kernel_rfl)) ?_
  refine RL.store (v:=.int .i64 d0.value) (cs':=#[.int .i64 d0.kind,.int .i64 d0.level,.int .i64 d0.value,.slice none 0 0,.slice none 0 0]) rfl rfl rfl B19 (by kernel_rfl) (by rfl) (by rfl) (by rfl) (fun w21 B22 ho23=>?_)
  have szw21:=ho23.size
  have B4:=B4.only_ ho23 (by intro hin; simp at hin; exact Eob14_ob6 hin)
  have B8:=B8.only_ ho23 (by intro hin; simp at hin; exact Eob14_ob10 hin)
  have T:=T.trans (ho23.below (by first|(simp; done)|(simp; omega)))
  refine RL.nil<|then_n<|wp_seq<|wp_rl rfl<|RL.y rfl (Y.fieldAddr (off:=3) rfl (by kernel_rfl))<|RL.y rfl (Y.load (v:=.slice A1 d0.data.length c1) rfl (by kernel_rfl) (eqC (blkCell B4 (i:=3) rfl))) ?_
  obtain ⟨y24,e25,hm⟩:=bnd hm
  refine RL.call rfl (am1 rfl) (by kernel_rfl) ((c_m_laws_toInt64S d0.data _ e25 _ _ (slArg intRd_ok h1 r1 T)).mono ?_)
  rintro _ w29 ⟨⟨v26,rfl,G27⟩,hb30⟩
  refine ⟨_,rfl,?_⟩
  have szw29:=hb30.size
  have T0w29:=T.size
  have Zo28_ob6:=ap_ne (Ap.new (OwF.flo G27) (one_hi B4.lt))
  have Zo28_ob10:=ap_ne (Ap.new (OwF.flo G27) (one_hi B8.lt))
  have Zo28_ob14:=ap_ne (Ap.new (OwF.flo G27) (one_hi B22.lt))
  have B4:=blkT B4 hb30
  have B8:=blkT B8 hb30
  have B22:=blkT B22 hb30
  have T:=Tt T hb30
  replace G27:=OwF.mono G27 T0w29
  refine RL.y rfl (Y.fieldAddr (off:=3) rfl (by kernel_rfl)) ?_
  obtain ⟨A31,c32,rfl⟩:=OwF.form G27
  have qbA31:=OwF.bound G27
  refine RL.store (v:=.slice A31 y24.length c32) (cs':=#[.int .i64 d0.kind,.int .i64 d0.level,.int .i64 d0.value,.slice A31 y24.length c32,.slice none 0 0]) rfl rfl rfl B22 (by kernel_rfl) (by rfl) (by rfl) (by rfl) (fun w33 B34 ho35=>?_)
  have szw33:=ho35.size
  have B4:=B4.only_ ho35 (by intro hin; simp at hin; exact Eob14_ob6 hin)
  have B8:=B8.only_ ho35 (by intro hin; simp at hin; exact Eob14_ob10 hin)
  have G27:=OwF.only G27 ho35 Zo28_ob14
  have T:=T.trans (ho35.below (by first|(simp; done)|(simp; omega)))
  refine RL.nil<|then_n<|wp_seq<|wp_rl rfl<|RL.y rfl (Y.fieldAddr (off:=4) rfl (by kernel_rfl))<|RL.y rfl (Y.load (v:=.slice A2 d0.ports.length c2) rfl (by kernel_rfl) (eqC (blkCell B4 (i:=4) rfl))) ?_
  obtain ⟨y36,e37,hm⟩:=bnd hm
  refine RL.call rfl (am1 rfl) (by kernel_rfl) ((c_m_laws_toPortS d0.ports _ e37 _ _ (slArg portRd_ok h2 r2 T)).mono ?_)
  rintro _ w41 ⟨⟨v38,rfl,G39⟩,hb42⟩
  refine ⟨_,rfl,?_⟩
  have szw41:=hb42.size
  have T0w41:=T.size
  have Zo40_ob6:=ap_ne (Ap.new (OwF.flo G39) (one_hi B4.lt))
  have Zo40_ob10:=ap_ne (Ap.new (OwF.flo G39) (one_hi B8.lt))
  have Zo40_ob14:=ap_ne (Ap.new (OwF.flo G39) (one_hi B34.lt))
  have Zo40_o28:=Ap.dj (Ap.new (OwF.flo G39) (OwF.fhi G27))
  have B4:=blkT B4 hb42
  have B8:=blkT B8 hb42
  have B34:=blkT B34 hb42
  have G27:=OwF.below G27 hb42
  have T:=Tt T hb42
  replace G39:=OwF.mono G39 T0w41
  refine RL.y rfl (Y.fieldAddr (off:=4) rfl (by kernel_rfl)) ?_
  obtain ⟨A43,c44,rfl⟩:=OwF.form G39
  have qbA43:=OwF.bound G39
  refine RL.store (v:=.slice A43 y36.length c44) (cs':=#[.int .i64 d0.kind,.int .i64 d0.level,.int .i64 d0.value,.slice A31 y24.length c32,.slice A43 y36.length c44]) rfl rfl rfl B34 (by kernel_rfl) (by rfl) (by rfl) (by rfl) (fun w45 B46 ho47=>?_)
  have szw45:=ho47.size
  have B4:=B4.only_ ho47 (by intro hin; simp at hin; exact Eob14_ob6 hin)
  have B8:=B8.only_ ho47 (by intro hin; simp at hin; exact Eob14_ob10 hin)
  have G27:=OwF.only G27 ho47 Zo28_ob14
  have G39:=OwF.only G39 ho47 Zo40_ob14
  have T:=T.trans (ho47.below (by first|(simp; done)|(simp; omega)))
  refine RL.nil<|then_n<|wp_seq<|wp_rl rfl<|RL.y rfl (Y.loadN (cs:=[.int .i64 d0.kind,.int .i64 d0.level,.int .i64 d0.value,.slice A31 y24.length c32,.slice A43 y36.length c44]) rfl (by kernel_rfl) (cells5 (eqC (blkCell B46 (i:=0) rfl)) (eqC (blkCell B46 (i:=1) rfl)) (eqC (blkCell B46 (i:=2) rfl)) (eqC (blkCell B46 (i:=3) rfl)) (eqC (blkCell B46 (i:=4) rfl)))) ?_
  refine RL.store (v:=.agg #[.int .i64 d0.kind,.int .i64 d0.level,.int .i64 d0.value,.slice A31 y24.length c32,.slice A43 y36.length c44]) (cs':=#[.int .i64 d0.kind,.int .i64 d0.level,.int .i64 d0.value,.slice A31 y24.length c32,.slice A43 y36.length c44]) rfl rfl rfl B8 (by kernel_rfl) (by rfl) (by rfl) (by rfl) (fun w48 B49 ho50=>?_)
  have szw48:=ho50.size
  have B46:=B46.only_ ho50 (by intro hin; simp at hin; exact Eob14_ob10.symm hin)
  have G27:=OwF.only G27 ho50 Zo28_ob10
  have G39:=OwF.only G39 ho50 Zo40_ob10
  have T:=T.trans (ho50.below (by first|(simp; done)|(simp; omega)))
  refine RL.nil<|then_n<|wp_ret ?_
  obtain rfl:=sj hm
  exact (retc (cs:=[.int .i64 d0.kind,.int .i64 d0.level,.int .i64 d0.value,.slice A31 y24.length c32,.slice A43 y36.length c44]) rfl rfl rfl (by kernel_rfl) (blkCells B49) ⟨⟨_,_,rfl,G27,G39,(Ap.dj (Ap.symm (Dj.ap Zo40_o28)))⟩,T⟩)
noncomputable def m_laws_toAgentS_A1 (xs8:List DAgent):Option (List DAgent):=
  some xs8
noncomputable def m_laws_toAgentS_B1 (d0:List DAgent) (rec1:List DAgent→Int→Option (List DAgent)) (K1:List DAgent→Option (List DAgent)) (xs10:List DAgent) (i11:Int):Option (List DAgent):=
  (bif (decide (i11 < (d0.length:Int))) then ((getI d0 i11).bind fun x14=>((m_laws_toAgent x14).bind fun y25=>((getI xs10 i11).bind fun x37=>(rec1 (setI xs10 i11 y25) (i11+1))))) else (K1 xs10))
noncomputable def m_laws_toAgentS_L1 (d0:List DAgent) (K1:List DAgent→Option (List DAgent)):Nat→List DAgent→Int→Option (List DAgent)
  |0,_,_=>none
  |g+1,xs10,i11=>m_laws_toAgentS_B1 d0 (m_laws_toAgentS_L1 d0 K1 g) K1 xs10 i11
noncomputable def m_laws_toAgentS (d0:List DAgent):Option (List DAgent):=
  ((mustP (d0.length≤4294967296)).bind fun _=>(m_laws_toAgentS_L1 d0 m_laws_toAgentS_A1 (d0.length+1) (List.replicate d0.length ((⟨0,0,0,[],[]⟩:DAgent):DAgent)) 0))
set_option maxHeartbeats 2000000 in
theorem c_m_laws_toAgentS (d0:List DAgent) (r:List DAgent) (hm:m_laws_toAgentS d0=some r) (v0:Value) (w:World) (hv0:Sl agentRd 5 w v0 d0) :
    Calls Tryz.prog 90 #[v0] w fun e w'=>(∃(v0:Value) (bs0:List Nat),e=.returned (v0)∧OwN 159 agentOw 5 w' w.heap.size v0 r bs0)∧Below w.heap.size w w':=by
  obtain ⟨Aa0,na0,ca0,rfl,ha0,ra0⟩:=hv0
  have ea0:=ha0.len; subst ea0
  have qa0:=len_le ra0
  have T:=Below.refl w.heap.size w
  unfold m_laws_toAgentS at hm
  refine enter 23 Tryz.func90 rfl rfl rfl ?_
  intro f hf
  have s0:f 0=.slice Aa0 d0.length ca0:=hf 0 _ rfl
  refine wp_seq<|wp_rs rfl<|RQ.y rfl (Y.assign (v:=.slice none 0 0) rfl)<|RQ.nil<|then_n<|wp_seq<|wp_rl rfl<|RL.y rfl (Y.move (v:=.slice Aa0 d0.length ca0) s0)<|RL.y rfl (Y.len (by kernel_rfl) rfl) ?_
  obtain ⟨_,m1,hm⟩:=bnd hm
  have hk2:=mustP_some m1
  refine RL.makeN (O:=agentOw) (x0:=(⟨0,0,0,[],[]⟩:DAgent)) (n:=d0.length) app_impl_Agent (by decide) (fun w=>⟨none,0,0,none,0,0,[],[],rfl,⟨⟨rfl,.inl ⟨rfl,rfl⟩⟩,Nat.le_refl _,Nat.zero_le _⟩,⟨⟨rfl,.inl ⟨rfl,rfl⟩⟩,Nat.le_refl _,Nat.zero_le _⟩,rfl⟩) rfl rfl rfl hk2 (fun w3 G4 hb5 szw3=>?_)
  replace G4:=OwN.mono G4 T.size
  have T:=Tt T hb5
  refine RL.y rfl (Y.assign (v:=.slice (some ⟨w.heap.size,0,none⟩) d0.length d0.length) rfl)<|RL.nil<|then_n<|wp_seq<|wp_seq<|wp_rs rfl<|RQ.y rfl (Y.assign (v:=.int .i64 0) rfl)<|RQ.nil<|then_n<|wp_block ?_
  obtain ⟨K1,hK1,hm⟩ :∃K,K=m_laws_toAgentS_A1∧m_laws_toAgentS_L1 d0 K (d0.length+1) (List.replicate d0.length ((⟨0,0,0,[],[]⟩:DAgent):DAgent)) 0=some r:=⟨_,rfl,hm⟩
  refine wp_loopX (fun g f w'=>∃(xs10:List DAgent) (i11:Int) (uxs10:Value) (bsxs10:List Nat),f 0=.slice Aa0 d0.length ca0∧f 3=uxs10∧OwN 159 agentOw 5 w' w.heap.size uxs10 xs10 bsxs10∧f 4=.int .i64 i11∧0≤i11∧Below w.heap.size w w'∧m_laws_toAgentS_L1 d0 K1 g xs10 i11=some r) 0 (fun f w'=>∃(xs8:List DAgent) (uxs8:Value) (bsxs8:List Nat),f 3=uxs8∧OwN 159 agentOw 5 w' w.heap.size uxs8 xs8 bsxs8∧Below w.heap.size w w'∧m_laws_toAgentS_A1 xs8=some r) (d0.length+1) ⟨(List.replicate d0.length ((⟨0,0,0,[],[]⟩:DAgent):DAgent)),0,(.slice (some ⟨w.heap.size,0,none⟩) d0.length d0.length),([w.heap.size]),s0,rfl,G4,rfl,(by omega),T,hm⟩ ?_ ?_
  ·rintro f w9 ⟨xs8,uxs8,bsxs8,s3_1x,Guxs8,T,hm⟩
   unfold m_laws_toAgentS_A1 at hm
   refine blk_hit (then_n ?_)
   refine wp_seq<|wp_rs rfl<|RQ.y rfl (Y.move (v:=uxs8) s3_1x)<|RQ.y rfl (Y.assign (v:=uxs8) rfl)<|RQ.nil<|then_n<|wp_ret ?_
   obtain rfl:=sj hm
   exact (ret1 rfl rfl rfl ⟨⟨_,_,rfl,Guxs8⟩,T⟩)
  rintro g f w12 ⟨xs10,i11,uxs10,bsxs10,s0_1,s3_1,Guxs10,s4_1,nn4_1,T,hm⟩
  rcases g with _|g
  ·simp only [m_laws_toAgentS_L1] at hm; cases hm
  obtain ⟨rec1,hrec1,hm⟩ :∃z,z=m_laws_toAgentS_L1 d0 K1 g∧m_laws_toAgentS_B1 d0 z K1 xs10 i11=some r:=⟨_,rfl,hm⟩
  unfold m_laws_toAgentS_B1 at hm
  refine wp_seq<|wp_seq<|wp_rs rfl<|RQ.y rfl (Y.move (v:=.int .i64 i11) s4_1)<|RQ.y rfl (Y.move (v:=.slice Aa0 d0.length ca0) s0_1)<|RQ.y rfl (Y.len (by kernel_rfl) rfl)<|RQ.y rfl (Y.binI (v:=.bool (decide (i11 < (d0.length:Int)))) rfl rfl rfl)<|RQ.nil<|then_n ?_
  rcases bcases (decide (i11 < (d0.length:Int))) with c13|c13
  ·replace hm:=cF c13 hm
   have pc13:=of_decide_eq_false c13
   refine cond_f rfl (vb rfl c13)<|wp_exit ?_
   exact (then_x (then_x (hit_x ⟨_,rfl,⟨xs10,(uxs10),bsxs10,s3_1,Guxs10,T,(by rw [hK1] at hm; exact hm)⟩⟩)))
  replace hm:=cT c13 hm
  have pc13:=of_decide_eq_true c13
  refine cond_t rfl (vb rfl c13)<|wp_skip<|then_n<|wp_seq<|wp_block<|wp_rl rfl<|RL.y rfl (Y.move (v:=uxs10) s3_1)<|RL.y rfl (Y.move (v:=.int .i64 i11) s4_1)<|RL.y rfl (Y.move (v:=.slice Aa0 d0.length ca0) s0_1)<|RL.y rfl (Y.move (v:=.int .i64 i11) s4_1) ?_
  obtain ⟨x14,hx17,hm⟩:=bnd hm
  obtain ⟨k15,hk18,hl19,hx17⟩:=getI_some hx17
  obtain ⟨b21,o22,rfl,hbb21⟩:=ha0.addr (by omega)
  obtain ⟨cs16,hRcs16,hc20⟩:=ha0.el hx17
  have hScs16:=hRcs16
  obtain ⟨A23,n23,c23,A24,n24,c24,rfl,⟨h23,r23⟩,⟨h24,r24⟩⟩:=hRcs16
  have e23:=h23.len; subst e23
  have q23:=len_le r23
  have e24:=h24.len; subst e24
  have q24:=len_le r24
  refine RL.y rfl (Y.indexAddr (m:=k15) (sz:=5) rfl rfl hk18 hl19 (by kernel_rfl))<|RL.y rfl (Y.loadN (cs:=[.int .i64 x14.kind,.int .i64 x14.level,.int .i64 x14.value,.slice A23 x14.data.length c23,.slice A24 x14.ports.length c24]) rfl (by kernel_rfl) (cells5 (eqC (cellT T (hc20 0 _ rfl))) (eqC (cellT T (hc20 1 _ rfl))) (eqC (cellT T (hc20 2 _ rfl))) (eqC (cellT T (hc20 3 _ rfl))) (eqC (cellT T (hc20 4 _ rfl))))) ?_
  obtain ⟨y25,e26,hm⟩:=bnd hm
  refine RL.call rfl (am1 rfl) (by kernel_rfl) ((c_m_laws_toAgent x14 _ e26 _ _ (stArg (R:=agentRd) ⟨_,_,_,_,_,_,rfl,⟨SlAt.now intRd_ok h23 (Nat.le_refl _) T,r23⟩,⟨SlAt.now portRd_ok h24 (Nat.le_refl _) T,r24⟩⟩)).mono ?_)
  rintro _ w33 ⟨⟨v27,v30,rfl,G28,G31,Ro29_o32⟩,hb34⟩
  refine ⟨_,rfl,?_⟩
  have szw33:=hb34.size
  have T0w33:=T.size
  have Zo29_oxs10:Ap (fb v27) bsxs10:=(Ap.new (OwF.flo G28) (OwN.hi Guxs10))
  have Zo32_oxs10:Ap (fb v30) bsxs10:=(Ap.new (OwF.flo G31) (OwN.hi Guxs10))
  have Guxs10:=OwN.below agentOw_ok Guxs10 hb34
  have T:=Tt T hb34
  replace G28:=OwF.mono G28 T0w33
  replace G31:=OwF.mono G31 T0w33
  obtain ⟨A35,c36,rfl⟩:=OwN.form Guxs10
  have qbA35:=OwN.bound Guxs10
  obtain ⟨x37,hx39,hm⟩:=bnd hm
  obtain ⟨k38,hk40,hl41,hx39⟩:=getI_some hx39
  obtain ⟨b42,rfl⟩:=OwN.addr0 Guxs10 (by omega)
  refine RL.y rfl (Y.indexAddr (m:=k38) (sz:=5) rfl rfl hk40 hl41 (by kernel_rfl)) ?_
  obtain ⟨A43,c44,rfl⟩:=OwF.form G28
  have qbA43:=OwF.bound G28
  obtain ⟨A45,c46,rfl⟩:=OwF.form G31
  have qbA45:=OwF.bound G31
  obtain ⟨l48,a47,nd49,sb50,r51⟩:=OwF.own2 fI G28
  obtain ⟨l53,a52,nd54,sb55,r56⟩:=OwF.own2 fPort G31
  refine RL.storeNW (k:=k38) (a':=y25) (l:=(l48 ++ l53)) (fp:=((fb (.slice A43 y25.data.length c44)) ++ (fb (.slice A45 y25.ports.length c46)))) agentOw_ok agentOw_one rfl rfl rfl Guxs10 hx39 ⟨_,_,_,_,_,_,l48,l53,rfl,⟨a47,r51⟩,⟨a52,r56⟩,rfl⟩ (nodup2 nd49 nd54 sb50 sb55 (Dj.ap Ro29_o32)) (sub2 sb50 sb55) (Ap.symm (Ap.append Zo29_oxs10 Zo32_oxs10)) (all2 (OwF.fboth G28 (Nat.le_refl _)) (OwF.fboth G31 (Nat.le_refl _))) (by kernel_rfl) (fun w57 G58 ho59=>?_)
  have szw57:=ho59.size
  have T:=T.trans (ho59.below (by intro b hb; simp at hb; subst hb; exact OwN.lo_ Guxs10 _ (OwN.row Guxs10 rfl)))
  have G58:OwN 159 agentOw 5 w57 w.heap.size (.slice (some ⟨b42,0,none⟩) xs10.length c36) (setI xs10 i11 y25) (bsxs10 ++ ((fb (.slice A43 y25.data.length c44)) ++ (fb (.slice A45 y25.ports.length c46)))):=by rw [setI_eq hk40]; exact G58
  refine RL.nil ?_
  refine blk_n (then_n ?_)
  refine wp_rs rfl<|RQ.y rfl (Y.move (v:=.int .i64 i11) s4_1)<|RQ.y rfl (Y.binI rfl rfl (binI_add (m:=i11) (by omega)))<|RQ.y rfl (Y.assign (v:=.int .i64 (i11+1)) rfl)<|RQ.nil ?_
  exact (then_n ⟨g,_,Nat.lt_succ_self _,rfl,⟨(setI xs10 i11 y25),(i11+1),(.slice (some ⟨b42,0,none⟩) xs10.length c36),(bsxs10 ++ ((fb (.slice A43 y25.data.length c44)) ++ (fb (.slice A45 y25.ports.length c46)))),s0_1,s3_1,G58,rfl,(by omega),T,(by rw [← hrec1]; exact hm)⟩⟩)
noncomputable def m_laws_toNet (d0:DNet):Option DNet:=
  ((m_laws_toAgentS d0.agents).bind fun y14=>some (⟨y14⟩:DNet))
set_option maxHeartbeats 2000000 in
theorem c_m_laws_toNet (d0:DNet) (r:DNet) (hm:m_laws_toNet d0=some r) (v0:Value) (w:World) (hv0:St netRd w v0 d0) :
    Calls Tryz.prog 43 #[v0] w fun e w'=>(∃(v0:Value) (bs0:List Nat),e=.returned (.agg #[v0])∧OwN 159 agentOw 5 w' w.heap.size v0 r.agents bs0)∧Below w.heap.size w w':=by
  obtain ⟨csa0,rfl,⟨A1,n1,c1,rfl,⟨h1,r1⟩⟩⟩:=hv0
  have e1:=h1.len; subst e1
  have q1:=len_le r1
  have T:=Below.refl w.heap.size w
  unfold m_laws_toNet at hm
  refine enter 9 Tryz.func43 rfl rfl rfl ?_
  intro f hf
  have s0:f 0=.agg #[.slice A1 d0.agents.length c1]:=hf 0 _ rfl
  refine wp_seq<|wp_rl rfl ?_
  refine RL.box rfl s0 (fun w2 B3 hb4 szw2=>?_)
  replace B3:Blk w2 w.heap.size 28 #[.slice A1 d0.agents.length c1]:=B3
  have GB3:w.heap.size≤w.heap.size:=T.size
  have T:=Tt T hb4
  refine RL.alloc (z:=.agg #[.slice none 0 0]) rfl (by kernel_rfl) (fun w6 B7 hb8 szw6=>?_)
  replace B7:Blk w6 w2.heap.size 42 #[.slice none 0 0]:=B7
  have GB7:w.heap.size≤w2.heap.size:=T.size
  have Eob9_ob5:=Nat.ne_of_lt B3.lt
  have B3:=blkT B3 hb8
  have T:=Tt T hb8
  refine RL.nil<|then_n<|wp_seq<|wp_rl rfl ?_
  refine RL.alloc (z:=.agg #[.slice none 0 0]) rfl (by kernel_rfl) (fun w10 B11 hb12 szw10=>?_)
  replace B11:Blk w10 w6.heap.size 42 #[.slice none 0 0]:=B11
  have GB11:w.heap.size≤w6.heap.size:=T.size
  have Eob13_ob5:=Nat.ne_of_lt B3.lt
  have Eob13_ob9:=Nat.ne_of_lt B7.lt
  have B3:=blkT B3 hb12
  have B7:=blkT B7 hb12
  have T:=Tt T hb12
  refine RL.nil<|then_n<|wp_seq<|wp_rl rfl<|RL.y rfl (Y.fieldAddr (off:=0) rfl (by kernel_rfl))<|RL.y rfl (Y.load (v:=.slice A1 d0.agents.length c1) rfl (by kernel_rfl) (eqC (blkCell B3 (i:=0) rfl))) ?_
  obtain ⟨y14,e15,hm⟩:=bnd hm
  refine RL.call rfl (am1 rfl) (by kernel_rfl) ((c_m_laws_toAgentS d0.agents _ e15 _ _ (slArg agentRd_ok h1 r1 T)).mono ?_)
  rintro _ w20 ⟨⟨v16,bs19,rfl,G17⟩,hb21⟩
  refine ⟨_,rfl,?_⟩
  have szw20:=hb21.size
  have T0w20:=T.size
  have Zo18_ob5:Ap bs19 [w.heap.size]:=(Ap.new (OwN.lo_ G17) (one_hi B3.lt))
  have Zo18_ob9:Ap bs19 [w2.heap.size]:=(Ap.new (OwN.lo_ G17) (one_hi B7.lt))
  have Zo18_ob13:Ap bs19 [w6.heap.size]:=(Ap.new (OwN.lo_ G17) (one_hi B11.lt))
  have B3:=blkT B3 hb21
  have B7:=blkT B7 hb21
  have B11:=blkT B11 hb21
  have T:=Tt T hb21
  replace G17:=OwN.mono G17 T0w20
  refine RL.y rfl (Y.fieldAddr (off:=0) rfl (by kernel_rfl)) ?_
  obtain ⟨A22,c23,rfl⟩:=OwN.form G17
  have qbA22:=OwN.bound G17
  refine RL.store (v:=.slice A22 y14.length c23) (cs':=#[.slice A22 y14.length c23]) rfl rfl rfl B11 (by kernel_rfl) (by rfl) (by rfl) (by rfl) (fun w24 B25 ho26=>?_)
  have szw24:=ho26.size
  have B3:=B3.only_ ho26 (by intro hin; simp at hin; exact Eob13_ob5 hin)
  have B7:=B7.only_ ho26 (by intro hin; simp at hin; exact Eob13_ob9 hin)
  have G17:=OwN.only agentOw_ok G17 ho26 (Ap.one Zo18_ob13)
  have T:=T.trans (ho26.below (by first|(simp; done)|(simp; omega)))
  refine RL.nil<|then_n<|wp_seq<|wp_rl rfl<|RL.y rfl (Y.loadN (cs:=[.slice A22 y14.length c23]) rfl (by kernel_rfl) (cells1 (eqC (blkCell B25 (i:=0) rfl)))) ?_
  refine RL.store (v:=.agg #[.slice A22 y14.length c23]) (cs':=#[.slice A22 y14.length c23]) rfl rfl rfl B7 (by kernel_rfl) (by rfl) (by rfl) (by rfl) (fun w27 B28 ho29=>?_)
  have szw27:=ho29.size
  have B25:=B25.only_ ho29 (by intro hin; simp at hin; exact Eob13_ob9.symm hin)
  have G17:=OwN.only agentOw_ok G17 ho29 (Ap.one Zo18_ob9)
  have T:=T.trans (ho29.below (by first|(simp; done)|(simp; omega)))
  refine RL.nil<|then_n<|wp_ret ?_
  obtain rfl:=sj hm
  exact (retc (cs:=[.slice A22 y14.length c23]) rfl rfl rfl (by kernel_rfl) (blkCells B28) ⟨⟨_,_,rfl,G17⟩,T⟩)
noncomputable def m_laws_toTypeSS_A1 (xs8:List (List DType)):Option (List (List DType)):=
  some xs8
noncomputable def m_laws_toTypeSS_B1 (d0:List (List DType)) (rec1:List (List DType)→Int→Option (List (List DType))) (K1:List (List DType)→Option (List (List DType))) (xs10:List (List DType)) (i11:Int):Option (List (List DType)):=
  (bif (decide (i11 < (d0.length:Int))) then ((getI d0 i11).bind fun x14=>((m_laws_toTypeS (SizeOf.sizeOf x14) x14).bind fun y24=>((getI xs10 i11).bind fun x34=>(rec1 (setI xs10 i11 y24) (i11+1))))) else (K1 xs10))
noncomputable def m_laws_toTypeSS_L1 (d0:List (List DType)) (K1:List (List DType)→Option (List (List DType))):Nat→List (List DType)→Int→Option (List (List DType))
  |0,_,_=>none
  |g+1,xs10,i11=>m_laws_toTypeSS_B1 d0 (m_laws_toTypeSS_L1 d0 K1 g) K1 xs10 i11
noncomputable def m_laws_toTypeSS (d0:List (List DType)):Option (List (List DType)):=
  ((mustP (d0.length≤4294967296)).bind fun _=>(m_laws_toTypeSS_L1 d0 m_laws_toTypeSS_A1 (d0.length+1) (List.replicate d0.length ([] : List DType)) 0))
set_option maxHeartbeats 2000000 in
theorem c_m_laws_toTypeSS (d0:List (List DType)) (r:List (List DType)) (hm:m_laws_toTypeSS d0=some r) (v0:Value) (w:World) (hv0:Sl (slRd typeRd 3) 1 w v0 d0) :
    Calls Tryz.prog 44 #[v0] w fun e w'=>(∃(v0:Value) (bs0:List Nat),e=.returned (v0)∧OwN 36 (slOw typeOw 3) 1 w' w.heap.size v0 r bs0)∧Below w.heap.size w w':=by
  obtain ⟨Aa0,na0,ca0,rfl,ha0,ra0⟩:=hv0
  have ea0:=ha0.len; subst ea0
  have qa0:=len_le ra0
  have T:=Below.refl w.heap.size w
  unfold m_laws_toTypeSS at hm
  refine enter 23 Tryz.func44 rfl rfl rfl ?_
  intro f hf
  have s0:f 0=.slice Aa0 d0.length ca0:=hf 0 _ rfl
  refine wp_seq<|wp_rs rfl<|RQ.y rfl (Y.assign (v:=.slice none 0 0) rfl)<|RQ.nil<|then_n<|wp_seq<|wp_rl rfl<|RL.y rfl (Y.move (v:=.slice Aa0 d0.length ca0) s0)<|RL.y rfl (Y.len (by kernel_rfl) rfl) ?_
  obtain ⟨_,m1,hm⟩:=bnd hm
  have hk2:=mustP_some m1
  refine RL.makeN (O:=(slOw typeOw 3)) (x0:=[]) (n:=d0.length) app_impl_Type_ (by decide) (fun w=>⟨none,0,0,rfl,⟨rfl,.inl ⟨rfl,rfl⟩⟩,Nat.le_refl _,Nat.zero_le _⟩) rfl rfl rfl hk2 (fun w3 G4 hb5 szw3=>?_)
  replace G4:=OwN.mono G4 T.size
  have T:=Tt T hb5
  refine RL.y rfl (Y.assign (v:=.slice (some ⟨w.heap.size,0,none⟩) d0.length d0.length) rfl)<|RL.nil<|then_n<|wp_seq<|wp_seq<|wp_rs rfl<|RQ.y rfl (Y.assign (v:=.int .i64 0) rfl)<|RQ.nil<|then_n<|wp_block ?_
  obtain ⟨K1,hK1,hm⟩ :∃K,K=m_laws_toTypeSS_A1∧m_laws_toTypeSS_L1 d0 K (d0.length+1) (List.replicate d0.length ([] : List DType)) 0=some r:=⟨_,rfl,hm⟩
  refine wp_loopX (fun g f w'=>∃(xs10:List (List DType)) (i11:Int) (uxs10:Value) (bsxs10:List Nat),f 0=.slice Aa0 d0.length ca0∧f 3=uxs10∧OwN 36 (slOw typeOw 3) 1 w' w.heap.size uxs10 xs10 bsxs10∧f 4=.int .i64 i11∧0≤i11∧Below w.heap.size w w'∧m_laws_toTypeSS_L1 d0 K1 g xs10 i11=some r) 0 (fun f w'=>∃(xs8:List (List DType)) (uxs8:Value) (bsxs8:List Nat),f 3=uxs8∧OwN 36 (slOw typeOw 3) 1 w' w.heap.size uxs8 xs8 bsxs8∧Below w.heap.size w w'∧m_laws_toTypeSS_A1 xs8=some r) (d0.length+1) ⟨(List.replicate d0.length ([] : List DType)),0,(.slice (some ⟨w.heap.size,0,none⟩) d0.length d0.length),([w.heap.size]),s0,rfl,G4,rfl,(by omega),T,hm⟩ ?_ ?_
  ·rintro f w9 ⟨xs8,uxs8,bsxs8,s3_1x,Guxs8,T,hm⟩
   unfold m_laws_toTypeSS_A1 at hm
   refine blk_hit (then_n ?_)
   refine wp_seq<|wp_rs rfl<|RQ.y rfl (Y.move (v:=uxs8) s3_1x)<|RQ.y rfl (Y.assign (v:=uxs8) rfl)<|RQ.nil<|then_n<|wp_ret ?_
   obtain rfl:=sj hm
   exact (ret1 rfl rfl rfl ⟨⟨_,_,rfl,Guxs8⟩,T⟩)
  rintro g f w12 ⟨xs10,i11,uxs10,bsxs10,s0_1,s3_1,Guxs10,s4_1,nn4_1,T,hm⟩
  rcases g with _|g
  ·simp only [m_laws_toTypeSS_L1] at hm; cases hm
  obtain ⟨rec1,hrec1,hm⟩ :∃z,z=m_laws_toTypeSS_L1 d0 K1 g∧m_laws_toTypeSS_B1 d0 z K1 xs10 i11=some r:=⟨_,rfl,hm⟩
  unfold m_laws_toTypeSS_B1 at hm
  refine wp_seq<|wp_seq<|wp_rs rfl<|RQ.y rfl (Y.move (v:=.int .i64 i11) s4_1)<|RQ.y rfl (Y.move (v:=.slice Aa0 d0.length ca0) s0_1)<|RQ.y rfl (Y.len (by kernel_rfl) rfl)<|RQ.y rfl (Y.binI (v:=.bool (decide (i11 < (d0.length:Int)))) rfl rfl rfl)<|RQ.nil<|then_n ?_
  rcases bcases (decide (i11 < (d0.length:Int))) with c13|c13
  ·replace hm:=cF c13 hm
   have pc13:=of_decide_eq_false c13
   refine cond_f rfl (vb rfl c13)<|wp_exit ?_
   exact (then_x (then_x (hit_x ⟨_,rfl,⟨xs10,(uxs10),bsxs10,s3_1,Guxs10,T,(by rw [hK1] at hm; exact hm)⟩⟩)))
  replace hm:=cT c13 hm
  have pc13:=of_decide_eq_true c13
  refine cond_t rfl (vb rfl c13)<|wp_skip<|then_n<|wp_seq<|wp_block<|wp_rl rfl<|RL.y rfl (Y.move (v:=uxs10) s3_1)<|RL.y rfl (Y.move (v:=.int .i64 i11) s4_1)<|RL.y rfl (Y.move (v:=.slice Aa0 d0.length ca0) s0_1)<|RL.y rfl (Y.move (v:=.int .i64 i11) s4_1) ?_
  obtain ⟨x14,hx17,hm⟩:=bnd hm
  obtain ⟨k15,hk18,hl19,hx17⟩:=getI_some hx17
  obtain ⟨b21,o22,rfl,hbb21⟩:=ha0.addr (by omega)
  obtain ⟨cs16,hRcs16,hc20⟩:=ha0.el hx17
  have hScs16:=hRcs16
  obtain ⟨A23,n23,c23,rfl,h23,r23⟩:=hRcs16
  have e23:=h23.len; subst e23
  have q23:=len_le r23
  refine RL.y rfl (Y.indexAddr (m:=k15) (sz:=1) rfl rfl hk18 hl19 (by kernel_rfl))<|RL.y rfl (Y.load (v:=.slice A23 x14.length c23) rfl (by kernel_rfl) (eqC (cellT T (hc20 0 _ rfl)))) ?_
  obtain ⟨y24,e25,hm⟩:=bnd hm
  refine RL.call rfl (am1 rfl) (by kernel_rfl) ((c_m_laws_toTypeS (SizeOf.sizeOf x14) x14 _ e25 _ _ (slArg typeRd_ok h23 r23 T)).mono ?_)
  rintro _ w30 ⟨⟨v26,bs29,rfl,G27⟩,hb31⟩
  refine ⟨_,rfl,?_⟩
  have szw30:=hb31.size
  have T0w30:=T.size
  have Zo28_oxs10:Ap bs29 bsxs10:=(Ap.new (OwN.lo_ G27) (OwN.hi Guxs10))
  have Guxs10:=OwN.below (slOw_ok typeOw_ok) Guxs10 hb31
  have T:=Tt T hb31
  replace G27:=OwN.mono G27 T0w30
  obtain ⟨A32,c33,rfl⟩:=OwN.form Guxs10
  have qbA32:=OwN.bound Guxs10
  obtain ⟨x34,hx36,hm⟩:=bnd hm
  obtain ⟨k35,hk37,hl38,hx36⟩:=getI_some hx36
  obtain ⟨b39,rfl⟩:=OwN.addr0 Guxs10 (by omega)
  refine RL.y rfl (Y.indexAddr (m:=k35) (sz:=1) rfl rfl hk37 hl38 (by kernel_rfl)) ?_
  obtain ⟨A40,c41,rfl⟩:=OwN.form G27
  have qbA40:=OwN.bound G27
  obtain ⟨_,_,_,l43,hea42,a42,nd44,sb45,r46⟩:=OwN.own1 typeOw_ok G27
  injection hea42 with e1 e2 e3; subst e1 e2 e3
  refine RL.storeNW (k:=k35) (a':=y24) (l:=l43) (fp:=bs29) (slOw_ok typeOw_ok) slOw_one rfl rfl rfl Guxs10 hx36 ⟨_,_,_,rfl,a42,r46⟩ nd44 sb45 (Ap.symm Zo28_oxs10) (OwN.both G27 (Nat.le_refl _)) (by kernel_rfl) (fun w47 G48 ho49=>?_)
  have szw47:=ho49.size
  have T:=T.trans (ho49.below (by intro b hb; simp at hb; subst hb; exact OwN.lo_ Guxs10 _ (OwN.row Guxs10 rfl)))
  have G48:OwN 36 (slOw typeOw 3) 1 w47 w.heap.size (.slice (some ⟨b39,0,none⟩) xs10.length c33) (setI xs10 i11 y24) (bsxs10 ++ bs29):=by rw [setI_eq hk37]; exact G48
  refine RL.nil ?_
  refine blk_n (then_n ?_)
  refine wp_rs rfl<|RQ.y rfl (Y.move (v:=.int .i64 i11) s4_1)<|RQ.y rfl (Y.binI rfl rfl (binI_add (m:=i11) (by omega)))<|RQ.y rfl (Y.assign (v:=.int .i64 (i11+1)) rfl)<|RQ.nil ?_
  exact (then_n ⟨g,_,Nat.lt_succ_self _,rfl,⟨(setI xs10 i11 y24),(i11+1),(.slice (some ⟨b39,0,none⟩) xs10.length c33),(bsxs10 ++ bs29),s0_1,s3_1,G48,rfl,(by omega),T,(by rw [← hrec1]; exact hm)⟩⟩)
noncomputable def m_laws_toTypedNet (d0:DTypedNet):Option DTypedNet:=
  ((m_laws_toNet (⟨d0.net.agents⟩:DNet)).bind fun y15=>((m_laws_toTypeSS d0.types).bind fun y28=>some (⟨(⟨y15.agents⟩:DNet),y28⟩:DTypedNet)))
set_option maxHeartbeats 2000000 in
theorem c_m_laws_toTypedNet (d0:DTypedNet) (r:DTypedNet) (hm:m_laws_toTypedNet d0=some r) (v0:Value) (w:World) (hv0:St typedNetRd w v0 d0) :
    Calls Tryz.prog 11 #[v0] w fun e w'=>(∃(v0:Value) (bs0:List Nat) (v1:Value) (bs1:List Nat),e=.returned (.agg #[v0,v1])∧OwN 159 agentOw 5 w' w.heap.size v0 r.net.agents bs0∧OwN 36 (slOw typeOw 3) 1 w' w.heap.size v1 r.types bs1∧Ap bs0 bs1)∧Below w.heap.size w w':=by
  obtain ⟨csa0,rfl,⟨A1,n1,c1,A2,n2,c2,rfl,⟨h1,r1⟩,⟨h2,r2⟩⟩⟩:=hv0
  have e1:=h1.len; subst e1
  have q1:=len_le r1
  have e2:=h2.len; subst e2
  have q2:=len_le r2
  have T:=Below.refl w.heap.size w
  unfold m_laws_toTypedNet at hm
  refine enter 13 Tryz.func11 rfl rfl rfl ?_
  intro f hf
  have s0:f 0=.agg #[.slice A1 d0.net.agents.length c1,.slice A2 d0.types.length c2]:=hf 0 _ rfl
  refine wp_seq<|wp_rl rfl ?_
  refine RL.box rfl s0 (fun w3 B4 hb5 szw3=>?_)
  replace B4:Blk w3 w.heap.size 31 #[.slice A1 d0.net.agents.length c1,.slice A2 d0.types.length c2]:=B4
  have GB4:w.heap.size≤w.heap.size:=T.size
  have T:=Tt T hb5
  refine RL.alloc (z:=.agg #[.slice none 0 0,.slice none 0 0]) rfl (by kernel_rfl) (fun w7 B8 hb9 szw7=>?_)
  replace B8:Blk w7 w3.heap.size 45 #[.slice none 0 0,.slice none 0 0]:=B8
  have GB8:w.heap.size≤w3.heap.size:=T.size
  have Eob10_ob6:=Nat.ne_of_lt B4.lt
  have B4:=blkT B4 hb9
  have T:=Tt T hb9
  refine RL.nil<|then_n<|wp_seq<|wp_rl rfl ?_
  refine RL.alloc (z:=.agg #[.slice none 0 0,.slice none 0 0]) rfl (by kernel_rfl) (fun w11 B12 hb13 szw11=>?_)
  replace B12:Blk w11 w7.heap.size 45 #[.slice none 0 0,.slice none 0 0]:=B12
  have GB12:w.heap.size≤w7.heap.size:=T.size
  have Eob14_ob6:=Nat.ne_of_lt B4.lt
  have Eob14_ob10:=Nat.ne_of_lt B8.lt
  have B4:=blkT B4 hb13
  have B8:=blkT B8 hb13
  have T:=Tt T hb13
  refine RL.nil<|then_n<|wp_seq<|wp_rl rfl<|RL.y rfl (Y.fieldAddr (off:=0) rfl (by kernel_rfl))<|RL.y rfl (Y.loadN (cs:=[.slice A1 d0.net.agents.length c1]) rfl (by kernel_rfl) (cells1 (eqC (blkCell B4 (i:=0) rfl)))) ?_
  obtain ⟨y15,e16,hm⟩:=bnd hm
  refine RL.call rfl (am1 rfl) (by kernel_rfl) ((c_m_laws_toNet (⟨d0.net.agents⟩:DNet) _ e16 _ _ (stArg (R:=netRd) ⟨_,_,_,rfl,⟨SlAt.now agentRd_ok h1 (Nat.le_refl _) T,r1⟩⟩)).mono ?_)
  rintro _ w21 ⟨⟨v17,bs20,rfl,G18⟩,hb22⟩
  refine ⟨_,rfl,?_⟩
  have szw21:=hb22.size
  have T0w21:=T.size
  have Zo19_ob6:Ap bs20 [w.heap.size]:=(Ap.new (OwN.lo_ G18) (one_hi B4.lt))
  have Zo19_ob10:Ap bs20 [w3.heap.size]:=(Ap.new (OwN.lo_ G18) (one_hi B8.lt))
  have Zo19_ob14:Ap bs20 [w7.heap.size]:=(Ap.new (OwN.lo_ G18) (one_hi B12.lt))
  have B4:=blkT B4 hb22
  have B8:=blkT B8 hb22
  have B12:=blkT B12 hb22
  have T:=Tt T hb22
  replace G18:=OwN.mono G18 T0w21
  refine RL.y rfl (Y.fieldAddr (off:=0) rfl (by kernel_rfl)) ?_
  obtain ⟨A23,c24,rfl⟩:=OwN.form G18
  have qbA23:=OwN.bound G18
  refine RL.store (v:=.agg #[.slice A23 y15.agents.length c24]) (cs':=#[.slice A23 y15.agents.length c24,.slice none 0 0]) rfl rfl rfl B12 (by kernel_rfl) (by rfl) (by rfl) (by rfl) (fun w25 B26 ho27=>?_)
  have szw25:=ho27.size
  have B4:=B4.only_ ho27 (by intro hin; simp at hin; exact Eob14_ob6 hin)
  have B8:=B8.only_ ho27 (by intro hin; simp at hin; exact Eob14_ob10 hin)
  have G18:=OwN.only agentOw_ok G18 ho27 (Ap.one Zo19_ob14)
  have T:=T.trans (ho27.below (by first|(simp; done)|(simp; omega)))
  refine RL.nil<|then_n<|wp_seq<|wp_rl rfl<|RL.y rfl (Y.fieldAddr (off:=1) rfl (by kernel_rfl))<|RL.y rfl (Y.load (v:=.slice A2 d0.types.length c2) rfl (by kernel_rfl) (eqC (blkCell B4 (i:=1) rfl))) ?_
  obtain ⟨y28,e29,hm⟩:=bnd hm
  refine RL.call rfl (am1 rfl) (by kernel_rfl) ((c_m_laws_toTypeSS d0.types _ e29 _ _ (slArg (slRd_ok typeRd_ok) h2 r2 T)).mono ?_)
  rintro _ w34 ⟨⟨v30,bs33,rfl,G31⟩,hb35⟩
  refine ⟨_,rfl,?_⟩
  have szw34:=hb35.size
  have T0w34:=T.size
  have Zo32_ob6:Ap bs33 [w.heap.size]:=(Ap.new (OwN.lo_ G31) (one_hi B4.lt))
  have Zo32_ob10:Ap bs33 [w3.heap.size]:=(Ap.new (OwN.lo_ G31) (one_hi B8.lt))
  have Zo32_ob14:Ap bs33 [w7.heap.size]:=(Ap.new (OwN.lo_ G31) (one_hi B26.lt))
  have Zo32_o19:Ap bs33 bs20:=(Ap.new (OwN.lo_ G31) (OwN.hi G18))
  have B4:=blkT B4 hb35
  have B8:=blkT B8 hb35
  have B26:=blkT B26 hb35
  have G18:=OwN.below agentOw_ok G18 hb35
  have T:=Tt T hb35
  replace G31:=OwN.mono G31 T0w34
  refine RL.y rfl (Y.fieldAddr (off:=1) rfl (by kernel_rfl)) ?_
  obtain ⟨A36,c37,rfl⟩:=OwN.form G31
  have qbA36:=OwN.bound G31
  refine RL.store (v:=.slice A36 y28.length c37) (cs':=#[.slice A23 y15.agents.length c24,.slice A36 y28.length c37]) rfl rfl rfl B26 (by kernel_rfl) (by rfl) (by rfl) (by rfl) (fun w38 B39 ho40=>?_)
  have szw38:=ho40.size
  have B4:=B4.only_ ho40 (by intro hin; simp at hin; exact Eob14_ob6 hin)
  have B8:=B8.only_ ho40 (by intro hin; simp at hin; exact Eob14_ob10 hin)
  have G18:=OwN.only agentOw_ok G18 ho40 (Ap.one Zo19_ob14)
  have G31:=OwN.only (slOw_ok typeOw_ok) G31 ho40 (Ap.one Zo32_ob14)
  have T:=T.trans (ho40.below (by first|(simp; done)|(simp; omega)))
  refine RL.nil<|then_n<|wp_seq<|wp_rl rfl<|RL.y rfl (Y.loadN (cs:=[.slice A23 y15.agents.length c24,.slice A36 y28.length c37]) rfl (by kernel_rfl) (cells2 (eqC (blkCell B39 (i:=0) rfl)) (eqC (blkCell B39 (i:=1) rfl)))) ?_
  refine RL.store (v:=.agg #[.slice A23 y15.agents.length c24,.slice A36 y28.length c37]) (cs':=#[.slice A23 y15.agents.length c24,.slice A36 y28.length c37]) rfl rfl rfl B8 (by kernel_rfl) (by rfl) (by rfl) (by rfl) (fun w41 B42 ho43=>?_)
  have szw41:=ho43.size
  have B39:=B39.only_ ho43 (by intro hin; simp at hin; exact Eob14_ob10.symm hin)
  have G18:=OwN.only agentOw_ok G18 ho43 (Ap.one Zo19_ob10)
  have G31:=OwN.only (slOw_ok typeOw_ok) G31 ho43 (Ap.one Zo32_ob10)
  have T:=T.trans (ho43.below (by first|(simp; done)|(simp; omega)))
  refine RL.nil<|then_n<|wp_ret ?_
  obtain rfl:=sj hm
  exact (retc (cs:=[.slice A23 y15.agents.length c24,.slice A36 y28.length c37]) rfl rfl rfl (by kernel_rfl) (blkCells B42) ⟨⟨_,_,_,_,rfl,G18,G31,(Ap.symm Zo32_o19)⟩,T⟩)
noncomputable def m_laws_szTypeSS_A1 (i3:Int):Option Int:=
  some i3
noncomputable def m_laws_szTypeSS_B1 (d0:List (List DType)) (rec1:Int→Int→Option Int) (K1:Int→Option Int) (i5:Int) (i6:Int):Option Int:=
  (bif (decide (i6 < (d0.length:Int))) then ((getI d0 i6).bind fun x9=>((m_laws_szTypeS (SizeOf.sizeOf x9) x9 i5).bind fun y19=>(bif (decide (y19 < 0)) then some (-1) else (rec1 y19 (i6+1))))) else (K1 i5))
noncomputable def m_laws_szTypeSS_L1 (d0:List (List DType)) (K1:Int→Option Int):Nat→Int→Int→Option Int
  |0,_,_=>none
  |g+1,i5,i6=>m_laws_szTypeSS_B1 d0 (m_laws_szTypeSS_L1 d0 K1 g) K1 i5 i6
noncomputable def m_laws_szTypeSS (d0:List (List DType)) (d1:Int):Option Int:=
  ((ck (d1 - (d0.length:Int))).bind fun s1=>(bif (decide (s1 < 0)) then some (-1) else (m_laws_szTypeSS_L1 d0 m_laws_szTypeSS_A1 (d0.length+1) s1 0)))
set_option maxHeartbeats 2000000 in
theorem c_m_laws_szTypeSS (d0:List (List DType)) (d1:Int) (r:Int) (hm:m_laws_szTypeSS d0 d1=some r) (v0:Value) (w:World) (hv0:Sl (slRd typeRd 3) 1 w v0 d0) :
    Calls Tryz.prog 39 #[v0,.int .i64 d1] w fun e w'=>e=.returned (.int .i64 r)∧Below w.heap.size w w':=by
  obtain ⟨Aa0,na0,ca0,rfl,ha0,ra0⟩:=hv0
  have ea0:=ha0.len; subst ea0
  have qa0:=len_le ra0
  have T:=Below.refl w.heap.size w
  unfold m_laws_szTypeSS at hm
  refine enter 27 Tryz.func39 rfl rfl rfl ?_
  intro f hf
  have s0:f 0=.slice Aa0 d0.length ca0:=hf 0 _ rfl
  have s1:f 1=.int .i64 d1:=hf 1 _ rfl
  refine wp_seq<|wp_rs rfl<|RQ.y rfl (Y.assign (v:=.int .i64 0) rfl)<|RQ.nil<|then_n<|wp_seq<|wp_rs rfl<|RQ.y rfl (Y.move (v:=.int .i64 d1) s1)<|RQ.y rfl (Y.move (v:=.slice Aa0 d0.length ca0) s0)<|RQ.y rfl (Y.len (by kernel_rfl) rfl) ?_
  obtain ⟨s1,ks1,hm⟩:=bnd hm
  replace ks1:=ck_some ks1
  refine RQ.y rfl (Y.binI (v:=.int .i64 s1) rfl rfl (by rw [binI_sub ks1.2,ks1.1]))<|RQ.y rfl (Y.assign (v:=.int .i64 s1) rfl)<|RQ.nil<|then_n<|wp_seq<|wp_seq<|wp_rs rfl<|RQ.y rfl (Y.move (v:=.int .i64 s1) rfl)<|RQ.y rfl (Y.binI (v:=.bool (decide (s1 < 0))) rfl rfl rfl)<|RQ.nil<|then_n ?_
  rcases bcases (decide (s1 < 0)) with c2|c2
  ·replace hm:=cF c2 hm
   have pc2:=of_decide_eq_false c2
   refine cond_f rfl (vb rfl c2)<|wp_skip<|then_n<|wp_seq<|wp_seq<|wp_rs rfl<|RQ.y rfl (Y.assign (v:=.int .i64 0) rfl)<|RQ.nil<|then_n<|wp_block ?_
   obtain ⟨K1,hK1,hm⟩ :∃K,K=m_laws_szTypeSS_A1∧m_laws_szTypeSS_L1 d0 K (d0.length+1) s1 0=some r:=⟨_,rfl,hm⟩
   refine wp_loopX (fun g f w'=>∃(i5:Int) (i6:Int),f 0=.slice Aa0 d0.length ca0∧f 1=.int .i64 i5∧f 5=.int .i64 i6∧0≤i6∧Below w.heap.size w w'∧m_laws_szTypeSS_L1 d0 K1 g i5 i6=some r) 0 (fun f w'=>∃(i3:Int),f 1=.int .i64 i3∧Below w.heap.size w w'∧m_laws_szTypeSS_A1 i3=some r) (d0.length+1) ⟨s1,0,s0,rfl,rfl,(by omega),T,hm⟩ ?_ ?_
   ·rintro f w4 ⟨i3,s1_1x,T,hm⟩
    unfold m_laws_szTypeSS_A1 at hm
    refine blk_hit (then_n ?_)
    refine wp_seq<|wp_rs rfl<|RQ.y rfl (Y.move (v:=.int .i64 i3) s1_1x)<|RQ.y rfl (Y.assign (v:=.int .i64 i3) rfl)<|RQ.nil<|then_n<|wp_ret ?_
    obtain rfl:=sj hm
    exact (ret1 rfl rfl rfl ⟨rfl,T⟩)
   rintro g f w7 ⟨i5,i6,s0_1,s1_1,s5_1,nn5_1,T,hm⟩
   rcases g with _|g
   ·simp only [m_laws_szTypeSS_L1] at hm; cases hm
   obtain ⟨rec1,hrec1,hm⟩ :∃z,z=m_laws_szTypeSS_L1 d0 K1 g∧m_laws_szTypeSS_B1 d0 z K1 i5 i6=some r:=⟨_,rfl,hm⟩
   unfold m_laws_szTypeSS_B1 at hm
   refine wp_seq<|wp_seq<|wp_rs rfl<|RQ.y rfl (Y.move (v:=.int .i64 i6) s5_1)<|RQ.y rfl (Y.move (v:=.slice Aa0 d0.length ca0) s0_1)<|RQ.y rfl (Y.len (by kernel_rfl) rfl)<|RQ.y rfl (Y.binI (v:=.bool (decide (i6 < (d0.length:Int)))) rfl rfl rfl)<|RQ.nil<|then_n ?_
   rcases bcases (decide (i6 < (d0.length:Int))) with c8|c8
   ·replace hm:=cF c8 hm
    have pc8:=of_decide_eq_false c8
    refine cond_f rfl (vb rfl c8)<|wp_exit ?_
    exact (then_x (then_x (hit_x ⟨_,rfl,⟨i5,s1_1,T,(by rw [hK1] at hm; exact hm)⟩⟩)))
   replace hm:=cT c8 hm
   have pc8:=of_decide_eq_true c8
   refine cond_t rfl (vb rfl c8)<|wp_skip<|then_n<|wp_seq<|wp_block<|wp_seq<|wp_rb rfl<|RQ.y rfl (Y.move (v:=.slice Aa0 d0.length ca0) s0_1)<|RQ.y rfl (Y.move (v:=.int .i64 i6) s5_1) ?_
   obtain ⟨x9,hx12,hm⟩:=bnd hm
   obtain ⟨k10,hk13,hl14,hx12⟩:=getI_some hx12
   obtain ⟨b16,o17,rfl,hbb16⟩:=ha0.addr (by omega)
   obtain ⟨cs11,hRcs11,hc15⟩:=ha0.el hx12
   have hScs11:=hRcs11
   obtain ⟨A18,n18,c18,rfl,h18,r18⟩:=hRcs11
   have e18:=h18.len; subst e18
   have q18:=len_le r18
   refine RQ.y rfl (Y.indexAddr (m:=k10) (sz:=1) rfl rfl hk13 hl14 (by kernel_rfl))<|RQ.y rfl (Y.load (v:=.slice A18 x9.length c18) rfl (by kernel_rfl) (beC (cellT T (hc15 0 _ rfl))))<|RQ.y rfl (Y.move (v:=.int .i64 i5) s1_1) ?_
   obtain ⟨y19,e20,hm⟩:=bnd hm
   refine RQ.call rfl (am2 rfl rfl) (by kernel_rfl) (v:=.int .i64 y19) (bel (K:=fun _=>True) fun w' hb'=>(c_m_laws_szTypeS (SizeOf.sizeOf x9) x9 i5 _ e20 _ w' (slArg typeRd_ok h18 r18 (Tt T hb'))))<|RQ.y rfl (Y.assign (v:=.int .i64 y19) rfl)<|RQ.nil ?_
   intro w21 hb22
   have szw21:=hb22.size
   have T:=Tt T hb22
   refine then_n<|wp_seq<|wp_rs rfl<|RQ.y rfl (Y.move (v:=.int .i64 y19) rfl)<|RQ.y rfl (Y.binI (v:=.bool (decide (y19 < 0))) rfl rfl rfl)<|RQ.nil<|then_n ?_
   rcases bcases (decide (y19 < 0)) with c23|c23
   ·replace hm:=cF c23 hm
    have pc23:=of_decide_eq_false c23
    refine cond_f rfl (vb rfl c23)<|wp_skip ?_
    refine blk_n (then_n ?_)
    refine wp_rs rfl<|RQ.y rfl (Y.move (v:=.int .i64 i6) s5_1)<|RQ.y rfl (Y.binI rfl rfl (binI_add (m:=i6) (by omega)))<|RQ.y rfl (Y.assign (v:=.int .i64 (i6+1)) rfl)<|RQ.nil ?_
    exact (then_n ⟨g,_,Nat.lt_succ_self _,rfl,⟨y19,(i6+1),s0_1,rfl,rfl,(by omega),T,(by rw [← hrec1]; exact hm)⟩⟩)
   replace hm:=cT c23 hm
   have pc23:=of_decide_eq_true c23
   refine cond_t rfl (vb rfl c23)<|wp_seq<|wp_rs rfl<|RQ.y rfl (Y.assign (v:=.int .i64 (-1)) rfl)<|RQ.nil<|then_n<|wp_ret ?_
   obtain rfl:=sj hm
   exact (blk_r (then_r (then_r (hit_r (blk_r (then_r (ret1 rfl rfl rfl ⟨rfl,T⟩)))))))
  replace hm:=cT c2 hm
  have pc2:=of_decide_eq_true c2
  refine cond_t rfl (vb rfl c2)<|wp_seq<|wp_rs rfl<|RQ.y rfl (Y.assign (v:=.int .i64 (-1)) rfl)<|RQ.nil<|then_n<|wp_ret ?_
  obtain rfl:=sj hm
  exact (then_r (ret1 rfl rfl rfl ⟨rfl,T⟩))
noncomputable def m_laws_szTypedNet (d0:DTypedNet) (d1:Int):Option Int:=
  ((szNetM (⟨d0.net.agents⟩:DNet) d1).bind fun y7=>(bif (decide (y7 < 0)) then some (-1) else ((m_laws_szTypeSS d0.types y7).bind fun y12=>(bif (decide (y12 < 0)) then some (-1) else some y12))))
set_option maxHeartbeats 2000000 in
theorem c_m_laws_szTypedNet (d0:DTypedNet) (d1:Int) (r:Int) (hm:m_laws_szTypedNet d0 d1=some r) (v0:Value) (w:World) (hv0:St typedNetRd w v0 d0) :
    Calls Tryz.prog 8 #[v0,.int .i64 d1] w fun e w'=>e=.returned (.int .i64 r)∧Below w.heap.size w w':=by
  obtain ⟨csa0,rfl,⟨A1,n1,c1,A2,n2,c2,rfl,⟨h1,r1⟩,⟨h2,r2⟩⟩⟩:=hv0
  have e1:=h1.len; subst e1
  have q1:=len_le r1
  have e2:=h2.len; subst e2
  have q2:=len_le r2
  have T:=Below.refl w.heap.size w
  unfold m_laws_szTypedNet at hm
  refine enter 18 Tryz.func8 rfl rfl rfl ?_
  intro f hf
  have s0:f 0=.agg #[.slice A1 d0.net.agents.length c1,.slice A2 d0.types.length c2]:=hf 0 _ rfl
  have s1:f 1=.int .i64 d1:=hf 1 _ rfl
  refine wp_seq<|wp_rl rfl ?_
  refine RL.box rfl s0 (fun w3 B4 hb5 szw3=>?_)
  replace B4:Blk w3 w.heap.size 31 #[.slice A1 d0.net.agents.length c1,.slice A2 d0.types.length c2]:=B4
  have GB4:w.heap.size≤w.heap.size:=T.size
  have T:=Tt T hb5
  refine RL.y rfl (Y.assign (v:=.int .i64 0) rfl)<|RL.nil<|then_n<|wp_seq<|wp_rb rfl<|RQ.y rfl (Y.fieldAddr (off:=0) rfl (by kernel_rfl))<|RQ.y rfl (Y.loadN (cs:=[.slice A1 d0.net.agents.length c1]) rfl (by kernel_rfl) (cells1 (beC (blkCell B4 (i:=0) rfl))))<|RQ.y rfl (Y.move (v:=.int .i64 d1) s1) ?_
  obtain ⟨y7,e8,hm⟩:=bnd hm
  refine RQ.call rfl (am2 rfl rfl) (by kernel_rfl) (v:=.int .i64 y7) (bel (K:=fun _=>True) fun w' hb'=>(c_szNetM (⟨d0.net.agents⟩:DNet) d1 _ e8 _ w' (stArg (R:=netRd) ⟨_,_,_,rfl,⟨SlAt.now agentRd_ok h1 (Nat.le_refl _) (Tt T hb'),r1⟩⟩)))<|RQ.y rfl (Y.assign (v:=.int .i64 y7) rfl)<|RQ.nil ?_
  intro w9 hb10
  have szw9:=hb10.size
  have B4:=blkT B4 hb10
  have T:=Tt T hb10
  refine then_n<|wp_seq<|wp_seq<|wp_rs rfl<|RQ.y rfl (Y.move (v:=.int .i64 y7) rfl)<|RQ.y rfl (Y.binI (v:=.bool (decide (y7 < 0))) rfl rfl rfl)<|RQ.nil<|then_n ?_
  rcases bcases (decide (y7 < 0)) with c11|c11
  ·replace hm:=cF c11 hm
   have pc11:=of_decide_eq_false c11
   refine cond_f rfl (vb rfl c11)<|wp_skip<|then_n<|wp_seq<|wp_rb rfl<|RQ.y rfl (Y.fieldAddr (off:=1) rfl (by kernel_rfl))<|RQ.y rfl (Y.load (v:=.slice A2 d0.types.length c2) rfl (by kernel_rfl) (beC (blkCell B4 (i:=1) rfl)))<|RQ.y rfl (Y.move (v:=.int .i64 y7) rfl) ?_
   obtain ⟨y12,e13,hm⟩:=bnd hm
   refine RQ.call rfl (am2 rfl rfl) (by kernel_rfl) (v:=.int .i64 y12) (bel (K:=fun _=>True) fun w' hb'=>(c_m_laws_szTypeSS d0.types y7 _ e13 _ w' (slArg (slRd_ok typeRd_ok) h2 r2 (Tt T hb'))))<|RQ.y rfl (Y.assign (v:=.int .i64 y12) rfl)<|RQ.nil ?_
   intro w14 hb15
   have szw14:=hb15.size
   have T:=Tt T hb15
   refine then_n<|wp_seq<|wp_seq<|wp_rs rfl<|RQ.y rfl (Y.move (v:=.int .i64 y12) rfl)<|RQ.y rfl (Y.binI (v:=.bool (decide (y12 < 0))) rfl rfl rfl)<|RQ.nil<|then_n ?_
   rcases bcases (decide (y12 < 0)) with c16|c16
   ·replace hm:=cF c16 hm
    have pc16:=of_decide_eq_false c16
    refine cond_f rfl (vb rfl c16)<|wp_skip<|then_n<|wp_seq<|wp_rs rfl<|RQ.y rfl (Y.move (v:=.int .i64 y12) rfl)<|RQ.y rfl (Y.assign (v:=.int .i64 y12) rfl)<|RQ.nil<|then_n<|wp_ret ?_
    obtain rfl:=sj hm
    exact (ret1 rfl rfl rfl ⟨rfl,T⟩)
   replace hm:=cT c16 hm
   have pc16:=of_decide_eq_true c16
   refine cond_t rfl (vb rfl c16)<|wp_seq<|wp_rs rfl<|RQ.y rfl (Y.assign (v:=.int .i64 (-1)) rfl)<|RQ.nil<|then_n<|wp_ret ?_
   obtain rfl:=sj hm
   exact (then_r (ret1 rfl rfl rfl ⟨rfl,T⟩))
  replace hm:=cT c11 hm
  have pc11:=of_decide_eq_true c11
  refine cond_t rfl (vb rfl c11)<|wp_seq<|wp_rs rfl<|RQ.y rfl (Y.assign (v:=.int .i64 (-1)) rfl)<|RQ.nil<|then_n<|wp_ret ?_
  obtain rfl:=sj hm
  exact (then_r (ret1 rfl rfl rfl ⟨rfl,T⟩))
noncomputable def m_laws_eqTypeSS_A1:Option Bool:=
  some true
noncomputable def m_laws_eqTypeSS_B1 (d0:List (List DType)) (d1:List (List DType)) (rec1:Int→Option Bool) (K1:Option Bool) (i3:Int):Option Bool:=
  (bif (decide (i3 < (d0.length:Int))) then ((getI d0 i3).bind fun x6=>((getI d1 i3).bind fun x16=>((m_laws_eqTypeS (SizeOf.sizeOf x6) x6 x16).bind fun y26=>(bif y26 then (rec1 (i3+1)) else some false)))) else (K1))
noncomputable def m_laws_eqTypeSS_L1 (d0:List (List DType)) (d1:List (List DType)) (K1:Option Bool):Nat→Int→Option Bool
  |0,_=>none
  |g+1,i3=>m_laws_eqTypeSS_B1 d0 d1 (m_laws_eqTypeSS_L1 d0 d1 K1 g) K1 i3
noncomputable def m_laws_eqTypeSS (d0:List (List DType)) (d1:List (List DType)):Option Bool:=
  (bif ((d0.length:Int) != (d1.length:Int)) then some false else (m_laws_eqTypeSS_L1 d0 d1 m_laws_eqTypeSS_A1 (d0.length+1) 0))
set_option maxHeartbeats 2000000 in
theorem c_m_laws_eqTypeSS (d0:List (List DType)) (d1:List (List DType)) (r:Bool) (hm:m_laws_eqTypeSS d0 d1=some r) (v0:Value) (v1:Value) (w:World) (hv0:Sl (slRd typeRd 3) 1 w v0 d0) (hv1:Sl (slRd typeRd 3) 1 w v1 d1) :
    Calls Tryz.prog 50 #[v0,v1] w fun e w'=>e=.returned (.bool r)∧Below w.heap.size w w':=by
  obtain ⟨Aa0,na0,ca0,rfl,ha0,ra0⟩:=hv0
  have ea0:=ha0.len; subst ea0
  have qa0:=len_le ra0
  obtain ⟨Aa1,na1,ca1,rfl,ha1,ra1⟩:=hv1
  have ea1:=ha1.len; subst ea1
  have qa1:=len_le ra1
  have T:=Below.refl w.heap.size w
  unfold m_laws_eqTypeSS at hm
  refine enter 27 Tryz.func50 rfl rfl rfl ?_
  intro f hf
  have s0:f 0=.slice Aa0 d0.length ca0:=hf 0 _ rfl
  have s1:f 1=.slice Aa1 d1.length ca1:=hf 1 _ rfl
  refine wp_seq<|wp_rs rfl<|RQ.y rfl (Y.assign (v:=.bool false) rfl)<|RQ.nil<|then_n<|wp_seq<|wp_seq<|wp_rs rfl<|RQ.y rfl (Y.move (v:=.slice Aa0 d0.length ca0) s0)<|RQ.y rfl (Y.len (by kernel_rfl) rfl)<|RQ.y rfl (Y.move (v:=.slice Aa1 d1.length ca1) s1)<|RQ.y rfl (Y.len (by kernel_rfl) rfl)<|RQ.y rfl (Y.binI (v:=.bool ((d0.length:Int) != (d1.length:Int))) rfl rfl rfl)<|RQ.nil<|then_n ?_
  rcases bcases ((d0.length:Int) != (d1.length:Int)) with c1|c1
  ·replace hm:=cF c1 hm
   refine cond_f rfl (vb rfl c1)<|wp_skip<|then_n<|wp_seq<|wp_seq<|wp_rs rfl<|RQ.y rfl (Y.assign (v:=.int .i64 0) rfl)<|RQ.nil<|then_n<|wp_block ?_
   obtain ⟨K1,hK1,hm⟩ :∃K,K=m_laws_eqTypeSS_A1∧m_laws_eqTypeSS_L1 d0 d1 K (d0.length+1) 0=some r:=⟨_,rfl,hm⟩
   refine wp_loopX (fun g f w'=>∃(i3:Int),f 0=.slice Aa0 d0.length ca0∧f 1=.slice Aa1 d1.length ca1∧f 5=.int .i64 i3∧0≤i3∧Below w.heap.size w w'∧m_laws_eqTypeSS_L1 d0 d1 K1 g i3=some r) 0 (fun f w'=>Below w.heap.size w w'∧m_laws_eqTypeSS_A1  = some r) (d0.length+1) ⟨0,s0,s1,rfl,(by omega),T,hm⟩ ?_ ?_
   ·rintro f w2 ⟨T,hm⟩
    unfold m_laws_eqTypeSS_A1 at hm
    refine blk_hit (then_n ?_)
    refine wp_seq<|wp_rs rfl<|RQ.y rfl (Y.assign (v:=.bool true) rfl)<|RQ.nil<|then_n<|wp_ret ?_
    obtain rfl:=sj hm
    exact (ret1 rfl rfl rfl ⟨rfl,T⟩)
   rintro g f w4 ⟨i3,s0_1,s1_1,s5_1,nn5_1,T,hm⟩
   rcases g with _|g
   ·simp only [m_laws_eqTypeSS_L1] at hm; cases hm
   obtain ⟨rec1,hrec1,hm⟩ :∃z,z=m_laws_eqTypeSS_L1 d0 d1 K1 g∧m_laws_eqTypeSS_B1 d0 d1 z K1 i3=some r:=⟨_,rfl,hm⟩
   unfold m_laws_eqTypeSS_B1 at hm
   refine wp_seq<|wp_seq<|wp_rs rfl<|RQ.y rfl (Y.move (v:=.int .i64 i3) s5_1)<|RQ.y rfl (Y.move (v:=.slice Aa0 d0.length ca0) s0_1)<|RQ.y rfl (Y.len (by kernel_rfl) rfl)<|RQ.y rfl (Y.binI (v:=.bool (decide (i3 < (d0.length:Int)))) rfl rfl rfl)<|RQ.nil<|then_n ?_
   rcases bcases (decide (i3 < (d0.length:Int))) with c5|c5
   ·replace hm:=cF c5 hm
    have pc5:=of_decide_eq_false c5
    refine cond_f rfl (vb rfl c5)<|wp_exit ?_
    exact (then_x (then_x (hit_x ⟨_,rfl,⟨T,(by rw [hK1] at hm; exact hm)⟩⟩)))
   replace hm:=cT c5 hm
   have pc5:=of_decide_eq_true c5
   refine cond_t rfl (vb rfl c5)<|wp_skip<|then_n<|wp_seq<|wp_block<|wp_seq<|wp_rbd (by kernel_rfl) (by kernel_rfl)<|RQ.y rfl (Y.move (v:=.slice Aa0 d0.length ca0) s0_1)<|RQ.y rfl (Y.move (v:=.int .i64 i3) s5_1) ?_
   obtain ⟨x6,hx9,hm⟩:=bnd hm
   obtain ⟨k7,hk10,hl11,hx9⟩:=getI_some hx9
   obtain ⟨b13,o14,rfl,hbb13⟩:=ha0.addr (by omega)
   obtain ⟨cs8,hRcs8,hc12⟩:=ha0.el hx9
   have hScs8:=hRcs8
   obtain ⟨A15,n15,c15,rfl,h15,r15⟩:=hRcs8
   have e15:=h15.len; subst e15
   have q15:=len_le r15
   refine RQ.y rfl (Y.indexAddr (m:=k7) (sz:=1) rfl rfl hk10 hl11 (by kernel_rfl))<|RQ.y rfl (Y.load (v:=.slice A15 x6.length c15) rfl (by kernel_rfl) (beC (cellT T (hc12 0 _ rfl))))<|RQ.y rfl (Y.move (v:=.slice Aa1 d1.length ca1) s1_1)<|RQ.y rfl (Y.move (v:=.int .i64 i3) s5_1) ?_
   obtain ⟨x16,hx19,hm⟩:=bnd hm
   obtain ⟨k17,hk20,hl21,hx19⟩:=getI_some hx19
   obtain ⟨b23,o24,rfl,hbb23⟩:=ha1.addr (by omega)
   obtain ⟨cs18,hRcs18,hc22⟩:=ha1.el hx19
   have hScs18:=hRcs18
   obtain ⟨A25,n25,c25,rfl,h25,r25⟩:=hRcs18
   have e25:=h25.len; subst e25
   have q25:=len_le r25
   refine RQ.y rfl (Y.indexAddr (m:=k17) (sz:=1) rfl rfl hk20 hl21 (by kernel_rfl))<|RQ.y rfl (Y.load (v:=.slice A25 x16.length c25) rfl (by kernel_rfl) (beC (cellT T (hc22 0 _ rfl)))) ?_
   obtain ⟨y26,e27,hm⟩:=bnd hm
   refine RQ.call rfl (am2 rfl rfl) (by kernel_rfl) (v:=.bool y26) (bel (K:=fun _=>True) fun w' hb'=>(c_m_laws_eqTypeS (SizeOf.sizeOf x6) x6 x16 _ e27 _ _ w' (slArg typeRd_ok h15 r15 (Tt T hb')) (slArg typeRd_ok h25 r25 (Tt T hb'))))<|RQ.y rfl (Y.not (b':=(!y26)) rfl rfl)<|RQ.nil ?_
   intro w28 hb29
   have szw28:=hb29.size
   have T:=Tt T hb29
   refine then_n ?_
   rcases bcases y26 with c30|c30
   ·replace hm:=cF c30 hm
    refine cond_t rfl (vbn rfl c30 rfl)<|wp_seq<|wp_rs rfl<|RQ.y rfl (Y.assign (v:=.bool false) rfl)<|RQ.nil<|then_n<|wp_ret ?_
    obtain rfl:=sj hm
    exact (blk_r (then_r (then_r (hit_r (blk_r (then_r (ret1 rfl rfl rfl ⟨rfl,T⟩)))))))
   replace hm:=cT c30 hm
   refine cond_f rfl (vbn rfl c30 rfl)<|wp_skip ?_
   refine blk_n (then_n ?_)
   refine wp_rs rfl<|RQ.y rfl (Y.move (v:=.int .i64 i3) s5_1)<|RQ.y rfl (Y.binI rfl rfl (binI_add (m:=i3) (by omega)))<|RQ.y rfl (Y.assign (v:=.int .i64 (i3+1)) rfl)<|RQ.nil ?_
   exact (then_n ⟨g,_,Nat.lt_succ_self _,rfl,⟨(i3+1),s0_1,s1_1,rfl,(by omega),T,(by rw [← hrec1]; exact hm)⟩⟩)
  replace hm:=cT c1 hm
  refine cond_t rfl (vb rfl c1)<|wp_seq<|wp_rs rfl<|RQ.y rfl (Y.assign (v:=.bool false) rfl)<|RQ.nil<|then_n<|wp_ret ?_
  obtain rfl:=sj hm
  exact (then_r (ret1 rfl rfl rfl ⟨rfl,T⟩))
noncomputable def m_laws_eqTypedNet (d0:DTypedNet) (d1:DTypedNet):Option Bool:=
  ((eqNetM (⟨d0.net.agents⟩:DNet) (⟨d1.net.agents⟩:DNet)).bind fun y13=>(bif y13 then ((m_laws_eqTypeSS d0.types d1.types).bind fun y18=>(bif y18 then some true else some false)) else some false))
set_option maxHeartbeats 2000000 in
theorem c_m_laws_eqTypedNet (d0:DTypedNet) (d1:DTypedNet) (r:Bool) (hm:m_laws_eqTypedNet d0 d1=some r) (v0:Value) (v1:Value) (w:World) (hv0:St typedNetRd w v0 d0) (hv1:St typedNetRd w v1 d1) :
    Calls Tryz.prog 14 #[v0,v1] w fun e w'=>e=.returned (.bool r)∧Below w.heap.size w w':=by
  obtain ⟨csa0,rfl,⟨A1,n1,c1,A2,n2,c2,rfl,⟨h1,r1⟩,⟨h2,r2⟩⟩⟩:=hv0
  have e1:=h1.len; subst e1
  have q1:=len_le r1
  have e2:=h2.len; subst e2
  have q2:=len_le r2
  obtain ⟨csa1,rfl,⟨A3,n3,c3,A4,n4,c4,rfl,⟨h3,r3⟩,⟨h4,r4⟩⟩⟩:=hv1
  have e3:=h3.len; subst e3
  have q3:=len_le r3
  have e4:=h4.len; subst e4
  have q4:=len_le r4
  have T:=Below.refl w.heap.size w
  unfold m_laws_eqTypedNet at hm
  refine enter 17 Tryz.func14 rfl rfl rfl ?_
  intro f hf
  have s0:f 0=.agg #[.slice A1 d0.net.agents.length c1,.slice A2 d0.types.length c2]:=hf 0 _ rfl
  have s1:f 1=.agg #[.slice A3 d1.net.agents.length c3,.slice A4 d1.types.length c4]:=hf 1 _ rfl
  refine wp_seq<|wp_rl rfl ?_
  refine RL.box rfl s0 (fun w5 B6 hb7 szw5=>?_)
  replace B6:Blk w5 w.heap.size 45 #[.slice A1 d0.net.agents.length c1,.slice A2 d0.types.length c2]:=B6
  have GB6:w.heap.size≤w.heap.size:=T.size
  have T:=Tt T hb7
  refine RL.box rfl s1 (fun w9 B10 hb11 szw9=>?_)
  replace B10:Blk w9 w5.heap.size 45 #[.slice A3 d1.net.agents.length c3,.slice A4 d1.types.length c4]:=B10
  have GB10:w.heap.size≤w5.heap.size:=T.size
  have Eob12_ob8:=Nat.ne_of_lt B6.lt
  have B6:=blkT B6 hb11
  have T:=Tt T hb11
  refine RL.y rfl (Y.assign (v:=.bool false) rfl)<|RL.nil<|then_n<|wp_seq<|wp_seq<|wp_rb rfl<|RQ.y rfl (Y.fieldAddr (off:=0) rfl (by kernel_rfl))<|RQ.y rfl (Y.loadN (cs:=[.slice A1 d0.net.agents.length c1]) rfl (by kernel_rfl) (cells1 (beC (blkCell B6 (i:=0) rfl))))<|RQ.y rfl (Y.fieldAddr (off:=0) rfl (by kernel_rfl))<|RQ.y rfl (Y.loadN (cs:=[.slice A3 d1.net.agents.length c3]) rfl (by kernel_rfl) (cells1 (beC (blkCell B10 (i:=0) rfl)))) ?_
  obtain ⟨y13,e14,hm⟩:=bnd hm
  refine RQ.call rfl (am2 rfl rfl) (by kernel_rfl) (v:=.bool y13) (bel (K:=fun _=>True) fun w' hb'=>(c_eqNetM (⟨d0.net.agents⟩:DNet) (⟨d1.net.agents⟩:DNet) _ e14 _ _ w' (stArg (R:=netRd) ⟨_,_,_,rfl,⟨SlAt.now agentRd_ok h1 (Nat.le_refl _) (Tt T hb'),r1⟩⟩) (stArg (R:=netRd) ⟨_,_,_,rfl,⟨SlAt.now agentRd_ok h3 (Nat.le_refl _) (Tt T hb'),r3⟩⟩)))<|RQ.y rfl (Y.not (b':=(!y13)) rfl rfl)<|RQ.nil ?_
  intro w15 hb16
  have szw15:=hb16.size
  have B6:=blkT B6 hb16
  have B10:=blkT B10 hb16
  have T:=Tt T hb16
  refine then_n ?_
  rcases bcases y13 with c17|c17
  ·replace hm:=cF c17 hm
   refine cond_t rfl (vbn rfl c17 rfl)<|wp_seq<|wp_rs rfl<|RQ.y rfl (Y.assign (v:=.bool false) rfl)<|RQ.nil<|then_n<|wp_ret ?_
   obtain rfl:=sj hm
   exact (then_r (ret1 rfl rfl rfl ⟨rfl,T⟩))
  replace hm:=cT c17 hm
  refine cond_f rfl (vbn rfl c17 rfl)<|wp_skip<|then_n<|wp_seq<|wp_seq<|wp_rb rfl<|RQ.y rfl (Y.fieldAddr (off:=1) rfl (by kernel_rfl))<|RQ.y rfl (Y.load (v:=.slice A2 d0.types.length c2) rfl (by kernel_rfl) (beC (blkCell B6 (i:=1) rfl)))<|RQ.y rfl (Y.fieldAddr (off:=1) rfl (by kernel_rfl))<|RQ.y rfl (Y.load (v:=.slice A4 d1.types.length c4) rfl (by kernel_rfl) (beC (blkCell B10 (i:=1) rfl))) ?_
  obtain ⟨y18,e19,hm⟩:=bnd hm
  refine RQ.call rfl (am2 rfl rfl) (by kernel_rfl) (v:=.bool y18) (bel (K:=fun _=>True) fun w' hb'=>(c_m_laws_eqTypeSS d0.types d1.types _ e19 _ _ w' (slArg (slRd_ok typeRd_ok) h2 r2 (Tt T hb')) (slArg (slRd_ok typeRd_ok) h4 r4 (Tt T hb'))))<|RQ.y rfl (Y.not (b':=(!y18)) rfl rfl)<|RQ.nil ?_
  intro w20 hb21
  have szw20:=hb21.size
  have T:=Tt T hb21
  refine then_n ?_
  rcases bcases y18 with c22|c22
  ·replace hm:=cF c22 hm
   refine cond_t rfl (vbn rfl c22 rfl)<|wp_seq<|wp_rs rfl<|RQ.y rfl (Y.assign (v:=.bool false) rfl)<|RQ.nil<|then_n<|wp_ret ?_
   obtain rfl:=sj hm
   exact (then_r (ret1 rfl rfl rfl ⟨rfl,T⟩))
  replace hm:=cT c22 hm
  refine cond_f rfl (vbn rfl c22 rfl)<|wp_skip<|then_n<|wp_seq<|wp_rs rfl<|RQ.y rfl (Y.assign (v:=.bool true) rfl)<|RQ.nil<|then_n<|wp_ret ?_
  obtain rfl:=sj hm
  exact (ret1 rfl rfl rfl ⟨rfl,T⟩)
end
section
open Go.RowKit
/-- A loop that goes through the states st 0, st 1, .. and ends at st n. -/
theorem traj {σ ρ:Type} {L:Nat→σ→Option ρ} {st:Nat→σ} {n:Nat} {r:Option ρ} (h :∀g k,k < n→L (g+1) (st k)=L g (st (k+1))) (he :∀g,L (g+1) (st n)=r) :∀g,n < g→L g (st 0)=r:=by
  have key :∀d k g,k+d=n→d < g→L g (st k)=r:=by
    intro d
    induction d with
    |zero=>
      intro k g hk hg
      obtain ⟨g,rfl⟩ :∃g',g=g'+1:=⟨g - 1,by omega⟩
      obtain rfl:k=n:=by omega
      exact he g
    |succ d ih=>
      intro k g hk hg
      obtain ⟨g,rfl⟩ :∃g',g=g'+1:=⟨g - 1,by omega⟩
      rw [h g k (by omega)]
      exact ih (k+1) g (by omega) (by omega)
  intro g hg
  exact key n 0 g (by omega) hg
/-- A loop over an index. -/
theorem trajI {ρ:Type} {L:Nat→Int→Option ρ} {n:Nat} {r:Option ρ} (h :∀g (k:Nat),k < n→L (g+1) (k:Int)=L g ((k:Int)+1)) (he :∀g,L (g+1) (n:Int)=r) (g:Nat) (hg:n < g):L g 0=r:=
  traj (L:=fun g (k:Nat)=>L g (k:Int)) (st:=fun k=>k) (fun g k hk=>by simpa using h g k hk) he g hg
open Classical in
/-- A loop that asks p of each index. -/
theorem allI {ρ:Type} {L:Nat→Int→Option ρ} {n:Nat} {p:Nat→Prop} {no K:Option ρ} (h1 :∀g (k:Nat),k < n→p k→L (g+1) (k:Int)=L g ((k:Int)+1)) (h2 :∀g (k:Nat),k < n→¬ p k→L (g+1) (k:Int)=no) (h3 :∀g,L (g+1) (n:Int)=K) (g:Nat) (hg:n < g) :
    L g 0=if∀k,k < n→p k then K else no:=by
  by_cases ha :∀k,k < n→p k
  · rw [if_pos ha]
    exact trajI (fun g k hk=>h1 g k hk (ha k hk)) h3 g hg
  · rw [if_neg ha]
    have hex :∃k,k < n∧¬ p k:=by
      apply Classical.byContradiction
      intro hn
      exact ha fun k hk=>Classical.byContradiction fun hp=>hn ⟨k,hk,hp⟩
    obtain ⟨m,⟨hm,hpm⟩,hleast⟩ :∃m,(m < n∧¬ p m)∧∀k,k < m→k < n→p k:=by
      obtain ⟨k0,hk0⟩:=hex
      induction k0 using Nat.strongRecOn with
      |_ k0 ih=>
        by_cases h :∃k,k < k0∧k < n∧¬ p k
        · obtain ⟨k,hk,hk1⟩:=h
          exact ih k hk hk1
        · exact ⟨k0,hk0,fun k hk hkn=>Classical.byContradiction fun hp=>h ⟨k,hk,hkn,hp⟩⟩
    exact trajI (n:=m) (fun g k hk=>h1 g k (by omega) (hleast k hk (by omega))) (fun g=>h2 g m hm hpm) g (by omega)
theorem allO {ρ:Type} {L:Nat→Int→Option ρ} {n:Nat} {p:Nat→Prop} {no K:Option ρ} (h1 :∀g (k:Nat),k < n→p k→L (g+1) (k:Int)=L g ((k:Int)+1)) (h2 :∀g (k:Nat),k < n→¬ p k→L (g+1) (k:Int)=no) (h3 :∀g,L (g+1) (n:Int)=K) (g:Nat) (hg:n < g) :
    ((∀k,k < n→p k)∧L g 0=K) ∨ ((¬∀k,k < n→p k)∧L g 0=no):=by
  have h:=allI h1 h2 h3 g hg
  by_cases ha :∀k,k < n→p k
  · rw [if_pos ha] at h; exact .inl ⟨ha,h⟩
  · rw [if_neg ha] at h; exact .inr ⟨ha,h⟩
theorem getI_lt {α:Type} {xs:List α} {k:Nat} (h:k < xs.length):getI xs (k:Int)=some xs[k]:=by simp [getI,h]
theorem dlt {k n:Nat} (h:k < n):decide ((k:Int) < (n:Int))=true:=by simp; omega
theorem dge {n:Nat} : decide ((n:Int) < (n:Int))=false:=by simp
end
section
open Go.RowKit
def fieldsN (k:Int) (p:Nat):Int:=if k=9 then (p:Int) - 1 else 0
def defIx (n:Int):Bool:=decide (0≤n) && decide (n≤23)
def int32B (n:Int):Bool:=decide (-2147483648≤n) && decide (n≤2147483647)
def operB (n:Int):Bool:=decide (1≤n) && decide (n≤6)
def content (k v:Int) (d:List Int):Bool:=
  if k=6 then decide (d.length=0) && int32B v
  else if k=7 then decide (d.length=0) && operB v
  else if k=8 then decide (d.length=1) && operB v && int32B (d.getD 0 0)
  else if k=9 then decide (d.length=0) && (decide (0≤v) && decide (v≤3))
  else if k=12 then decide (d.length=0) && defIx v
  else if k=10 then decide (v=0) && (decide (1≤d.length) && decide (d.length≤4)) && d.all defIx
  else if k=11 then decide (v=0) && decide (d.length=2) && d.all defIx
  else decide (v=0) && decide (d.length=0)
def agentOk (x:DAgent):Bool:=decide (0 < portsOf x.kind (fieldsN x.kind x.ports.length)) && decide ((x.ports.length:Int)=portsOf x.kind (fieldsN x.kind x.ports.length)) && allowed x.kind x.level && content x.kind x.value x.data
def AgentsOk (xs:List DAgent):Prop:=1≤xs.length∧xs.length≤600∧∀(i:Nat) (x:DAgent),xs[i]? = some x→agentOk x=true∧decide (x.kind=1)=decide (i=0)
open Classical in
noncomputable def agentsOk (xs:List DAgent):Bool:=decide (AgentsOk xs)
def agentAt (xs:List DAgent) (i:Int):DAgent:=xs.getD i.toNat default
def hasPort (xs:List DAgent) (p:DPort):Bool:=decide (0≤p.agent) && decide (p.agent < xs.length) && decide (0≤p.slot) && decide (p.slot < (agentAt xs p.agent).ports.length)
def peer (xs:List DAgent) (p:DPort):DPort:=(agentAt xs p.agent).ports.getD p.slot.toNat default
def badPort (xs:List DAgent) (p:DPort):Bool:=decide (peer xs p=p)||!hasPort xs (peer xs p)||!decide (peer xs (peer xs p)=p)
def PortsOk (xs:List DAgent):Prop:=∀(i:Nat) (x:DAgent),xs[i]? = some x→∀k:Nat,k < x.ports.length→badPort xs ⟨i,k⟩=false
open Classical in
noncomputable def validNet (x:DNet):Bool:=decide (AgentsOk x.agents∧PortsOk x.agents)
/-- All ports in order. -/
def agentPorts (i:Nat) (x:DAgent):List DPort:=(List.range x.ports.length).map fun (k:Nat)=>⟨i,k⟩
def portsFrom:Nat→List DAgent→List DPort
  |_,[]=>[]
  |i,x :: xs=>agentPorts i x ++ portsFrom (i+1) xs
def allPorts (xs:List DAgent):List DPort:=portsFrom 0 xs
theorem portsFrom_append :∀(i:Nat) (xs ys:List DAgent),portsFrom i (xs ++ ys)=portsFrom i xs ++ portsFrom (i+xs.length) ys
  |i,[],ys=>by simp [portsFrom]
  |i,x :: xs,ys=>by simp [portsFrom,portsFrom_append (i+1) xs ys,Nat.add_assoc,Nat.add_comm 1]
theorem allPorts_take {xs:List DAgent} {i:Nat} {x:DAgent} (h:xs[i]? = some x):allPorts (xs.take (i+1))=allPorts (xs.take i) ++ agentPorts i x:=by
  rw [take_succ_some h,allPorts,portsFrom_append]
  have hl:(xs.take i).length=i:=by have:=lt_of_some h; simp; omega
  simp [allPorts,portsFrom,hl]
theorem mem_portsFrom :∀{i:Nat} {xs:List DAgent} {p:DPort},p∈portsFrom i xs↔∃(j:Nat) (x:DAgent) (k:Nat),xs[j]? = some x∧k < x.ports.length∧p=⟨((i+j:Nat):Int),(k:Nat)⟩
  |i,[],p=>by simp [portsFrom]
  |i,y :: ys,p=>by
    rw [portsFrom,List.mem_append,mem_portsFrom]
    constructor
    · rintro (h|⟨j,x,k,h1,h2,h3⟩)
      · simp only [agentPorts,List.mem_map,List.mem_range] at h
        obtain ⟨k,hk,rfl⟩:=h
        exact ⟨0,y,k,rfl,hk,rfl⟩
      · exact ⟨j+1,x,k,by simpa using h1,h2,by rw [h3]; congr 2; omega⟩
    · rintro ⟨j,x,k,h1,h2,h3⟩
      cases j with
      |zero=>
        have:y=x:=by simpa using h1
        subst this
        exact .inl (by simp only [agentPorts,List.mem_map,List.mem_range]; exact ⟨k,h2,h3.symm⟩)
      |succ j=>exact .inr ⟨j,x,k,by simpa using h1,h2,by rw [h3]; congr 2; omega⟩
theorem any_allPorts (xs:List DAgent):(allPorts xs).any (badPort xs)=false↔PortsOk xs:=by
  rw [List.any_eq_false]
  constructor
  · intro h i x hx k hk
    have:=h ⟨i,k⟩ (mem_portsFrom.2 ⟨i,x,k,hx,hk,by simp⟩)
    simpa using this
  · intro h p hp
    obtain ⟨j,x,k,h1,h2,rfl⟩:=mem_portsFrom.1 hp
    have:=h j x h1 k h2
    simpa using this
theorem hasPort_at {xs:List DAgent} {p:DPort} (h:hasPort xs p=true) :∃(i k:Nat) (x:DAgent),p=⟨(i:Nat),(k:Nat)⟩∧xs[i]? = some x∧k < x.ports.length∧agentAt xs p.agent=x:=by
  obtain ⟨a,s⟩:=p
  simp only [hasPort,Bool.and_eq_true,decide_eq_true_eq] at h
  obtain ⟨⟨⟨h1,h2⟩,h3⟩,h4⟩:=h
  obtain ⟨i,rfl⟩:=Int.eq_ofNat_of_zero_le h1
  obtain ⟨k,rfl⟩:=Int.eq_ofNat_of_zero_le h3
  have hi:i < xs.length:=by omega
  refine ⟨i,k,xs[i],rfl,by simp [hi],?_,by simp [agentAt,List.getD,hi]⟩
  have:agentAt xs (i:Int)=xs[i]:=by simp [agentAt,List.getD,hi]
  rw [this] at h4
  omega
theorem hasPort_of {xs:List DAgent} {i k:Nat} {x:DAgent} (h:xs[i]? = some x) (hk:k < x.ports.length):hasPort xs ⟨i,k⟩=true:=by
  have hi:=lt_of_some h
  have:agentAt xs (i:Int)=x:=by simp [agentAt,List.getD,h]
  simp [hasPort,this]
  omega
theorem peer_of {xs:List DAgent} {i k:Nat} {x:DAgent} {q:DPort} (h:xs[i]? = some x) (hk:x.ports[k]? = some q):peer xs ⟨i,k⟩=q:=by
  have:agentAt xs (i:Int)=x:=by simp [agentAt,List.getD,h]
  simp [peer,this,List.getD,hk]
end
section
open Go.RowKit
theorem allDef {xs:List Int} : (∀k,k < xs.length→∃x,xs[k]? = some x∧defIx x=true)↔xs.all defIx=true:=by
  rw [List.all_eq_true]
  constructor
  · intro h x hx
    obtain ⟨k,hk,rfl⟩:=List.getElem_of_mem hx
    obtain ⟨y,hy,hd⟩:=h k hk
    rw [List.getElem?_eq_getElem hk] at hy
    injection hy with hy
    rw [hy]; exact hd
  · intro h k hk
    exact ⟨xs[k],List.getElem?_eq_getElem hk,h _ (List.getElem_mem _)⟩
theorem inR_def (x:Int):inR x 0 23=defIx x:=rfl
theorem content_L1 (x:DAgent) (g:Nat) (hg:x.data.length < g):m_spec_l11Content_L1 x m_spec_l11Content_A1 g 0=some (x.data.all defIx):=by
  have h:=allI (L:=m_spec_l11Content_L1 x m_spec_l11Content_A1) (n:=x.data.length) (p:=fun k=>∃y,x.data[k]? = some y∧defIx y=true) (no:=some false) (K:=some true)
    (fun g k hk ⟨y,hy,hd⟩=>by simp [m_spec_l11Content_L1,m_spec_l11Content_B1,hk,getI_nat hy,m_spec_l11Def,inR_def,hd])
    (fun g k hk hn=>by
      have hd:defIx x.data[k] = false:=by
        cases h:defIx x.data[k] with
        |false=>rfl
        |true=>exact absurd ⟨_,List.getElem?_eq_getElem hk,h⟩ hn
      simp [m_spec_l11Content_L1,m_spec_l11Content_B1,hk,getI_lt hk,m_spec_l11Def,inR_def,hd])
    (fun g=>by simp [m_spec_l11Content_L1,m_spec_l11Content_B1,m_spec_l11Content_A1]) g hg
  rw [h]
  by_cases ha:x.data.all defIx=true
  · rw [if_pos (allDef.2 ha),ha]
  · rw [if_neg (fun hh=>ha (allDef.1 hh))]; simp at ha ⊢; exact ha
theorem content_L2 (x:DAgent) (g:Nat) (hg:x.data.length < g):m_spec_l11Content_L2 x m_spec_l11Content_A2 g 0=some (x.data.all defIx):=by
  have h:=allI (L:=m_spec_l11Content_L2 x m_spec_l11Content_A2) (n:=x.data.length) (p:=fun k=>∃y,x.data[k]? = some y∧defIx y=true) (no:=some false) (K:=some true)
    (fun g k hk ⟨y,hy,hd⟩=>by simp [m_spec_l11Content_L2,m_spec_l11Content_B2,hk,getI_nat hy,m_spec_l11Def,inR_def,hd])
    (fun g k hk hn=>by
      have hd:defIx x.data[k] = false:=by
        cases h:defIx x.data[k] with
        |false=>rfl
        |true=>exact absurd ⟨_,List.getElem?_eq_getElem hk,h⟩ hn
      simp [m_spec_l11Content_L2,m_spec_l11Content_B2,hk,getI_lt hk,m_spec_l11Def,inR_def,hd])
    (fun g=>by simp [m_spec_l11Content_L2,m_spec_l11Content_B2,m_spec_l11Content_A2]) g hg
  rw [h]
  by_cases ha:x.data.all defIx=true
  · rw [if_pos (allDef.2 ha),ha]
  · rw [if_neg (fun hh=>ha (allDef.1 hh))]; simp at ha ⊢; exact ha
theorem p_content (x:DAgent):m_spec_l11Content x=some (content x.kind x.value x.data):=by
  have l1:=content_L1 x (x.data.length+1) (by omega)
  have l2:=content_L2 x (x.data.length+1) (by omega)
  have i2:((x.data.length:Int)=2)↔x.data.length=2:=by omega
  have i1:((x.data.length:Int)=1)↔x.data.length=1:=by omega
  have i14:inR (x.data.length:Int) 1 4=(decide (1≤x.data.length) && decide (x.data.length≤4)):=by
    rw [Bool.eq_iff_iff]; simp [inR]; omega
  have hI :∀y,inR y (-2147483648) 2147483647=int32B y:=fun _=>rfl
  have hO:inR x.value 1 6=operB x.value:=rfl
  unfold m_spec_l11Content content
  simp only [hI,hO,l1,l2,m_spec_l11Def,inR_def,Bool.cond_eq_ite,beq_iff_eq,bne_iff_ne,ne_eq,i14,i1,i2]
  by_cases h8:x.kind=8
  · by_cases h0:x.data.length=1
    · obtain ⟨y,hy⟩ :∃y,x.data=[y]:=List.length_eq_one_iff.1 h0
      simp only [h8,hy]
      cases ho:operB x.value <;> simp [getI]
    · simp [h8,h0]
  by_cases h6:x.kind=6
  · by_cases h0:x.data.length=0 <;> simp [h6,h0]
  by_cases h7:x.kind=7
  · by_cases h0:x.data.length=0 <;> simp [h7,h0]
  by_cases h9:x.kind=9
  · by_cases h0:x.data.length=0 <;> simp [h9,h0,inR]
  by_cases h12:x.kind=12
  · by_cases h0:x.data.length=0 <;> simp [h12,h0]
  by_cases h10:x.kind=10
  · by_cases hv:x.value=0 <;> by_cases n1:1≤x.data.length <;> by_cases n4:x.data.length≤4 <;> simp [h10,hv,n1,n4]
  by_cases h11:x.kind=11
  · by_cases hv:x.value=0 <;> by_cases hn:x.data.length=2 <;> simp [h11,hv,hn]
  by_cases hv:x.value=0 <;> by_cases h0:x.data.length=0 <;> simp [h6,h7,h8,h9,h10,h11,h12,hv,h0]
theorem p_fields (x:DAgent) (hp:x.ports.length≤9223372036854775807):m_spec_l11Fields x=some (fieldsN x.kind x.ports.length):=by
  unfold m_spec_l11Fields fieldsN
  simp only [Bool.cond_eq_ite,beq_iff_eq]
  by_cases h:x.kind=9
  · simp [h,ck_ok (n:=(x.ports.length:Int) - 1) (by omega)]
  · simp [h]
theorem p_agent (x:DAgent) (hp:x.ports.length≤9223372036854775807):m_spec_l11Agent x=some (agentOk x):=by
  unfold m_spec_l11Agent agentOk
  simp only [p_fields x hp,Option.bind_some,p_content,Bool.cond_eq_ite,beq_iff_eq,decide_eq_true_eq]
  generalize portsOf x.kind (fieldsN x.kind x.ports.length)=p
  by_cases h1:p > 0
  · have h1':0 < p:=h1
    by_cases h2:(x.ports.length:Int)=p
    · cases h3:allowed x.kind x.level <;> simp [h1,h1',h2]
    · simp [h1,h1',h2]
  · have h1':¬ 0 < p:=h1
    simp [h1,h1']
theorem p_ifields (k:Int) (n:Nat) (hn:n≤9223372036854775807):m_impl_fieldsOf k (n:Int)=some (fieldsN k n):=by
  unfold m_impl_fieldsOf fieldsN
  simp only [Bool.cond_eq_ite,beq_iff_eq]
  by_cases h:k=9
  · simp [h,ck_ok (n:=(n:Int) - 1) (by omega)]
  · simp [h]
theorem p_isDef (n:Int):m_impl_isDefIndex n=some (defIx n):=by
  unfold m_impl_isDefIndex defIx
  simp only [Bool.cond_eq_ite,decide_eq_true_eq]
  by_cases h:0≤n <;> simp [h] <;> omega
theorem p_isInt (n:Int):m_impl_isInt n=some (int32B n):=by
  unfold m_impl_isInt int32B
  simp only [Bool.cond_eq_ite,decide_eq_true_eq]
  by_cases h:-2147483648≤n <;> simp [h]
theorem p_isOper (n:Int):m_impl_isOperator n=some (operB n):=by
  unfold m_impl_isOperator operB
  simp only [Bool.cond_eq_ite,decide_eq_true_eq]
  by_cases h:1≤n <;> simp [h]
theorem p_index_int (d:List Int) (p:Int→Option Bool) (q:Int→Bool) (h :∀x∈d,p x=some (q x)) :∃i,m_slices_IndexFunc_int64_int64 d p=some i∧decide (i ≥ 0)=d.any q:=by
  unfold m_slices_IndexFunc_int64_int64
  by_cases ha :∃k,k < d.length∧∃x,d[k]? = some x∧q x=true
  · obtain ⟨m,⟨hm,x,hx,hq⟩,hl⟩ :∃m,(m < d.length∧∃x,d[m]? = some x∧q x=true)∧∀k,k < m→∀y,d[k]? = some y→q y=false:=by
      obtain ⟨k0,hk0⟩:=ha
      induction k0 using Nat.strongRecOn with
      |_ k0 ih=>
        by_cases hh :∃k,k < k0∧k < d.length∧∃x,d[k]? = some x∧q x=true
        · obtain ⟨k,hk,hk1⟩:=hh; exact ih k hk hk1
        · exact ⟨k0,hk0,fun k hk y hy=>by
            cases hq:q y with
            |false=>rfl
            |true=>exact absurd ⟨k,hk,lt_of_some hy,y,hy,hq⟩ hh⟩
    refine ⟨m,?_,?_⟩
    · refine trajI (n:=m) (fun g k hk=>?_) (fun g=>?_) _ (by omega)
      · have hkl:k < d.length:=by omega
        have hy:=List.getElem?_eq_getElem hkl
        simp [m_slices_IndexFunc_int64_int64_L1,m_slices_IndexFunc_int64_int64_B1,hkl,getI_lt hkl,h _ (List.getElem_mem hkl),hl k hk _ hy]
      · have hmem:=List.mem_of_getElem? hx
        simp [m_slices_IndexFunc_int64_int64_L1,m_slices_IndexFunc_int64_int64_B1,hm,getI_nat hx,h _ hmem,hq]
    · have:d.any q=true:=List.any_eq_true.2 ⟨x,List.mem_of_getElem? hx,hq⟩
      rw [this]; simp
  · refine ⟨-1,?_,?_⟩
    · refine trajI (n:=d.length) (fun g k hk=>?_) (fun g=>?_) _ (by omega)
      · have hq:q d[k] = false:=by
          cases hq:q d[k] with
          |false=>rfl
          |true=>exact absurd ⟨k,hk,_,List.getElem?_eq_getElem hk,hq⟩ ha
        simp [m_slices_IndexFunc_int64_int64_L1,m_slices_IndexFunc_int64_int64_B1,hk,getI_lt hk,h _ (List.getElem_mem hk),hq]
      · simp [m_slices_IndexFunc_int64_int64_L1,m_slices_IndexFunc_int64_int64_B1,m_slices_IndexFunc_int64_int64_A1]
    · have:d.any q=false:=List.any_eq_false.2 fun x hx hq=>by
        obtain ⟨k,hk,rfl⟩:=List.getElem_of_mem hx
        exact ha ⟨k,hk,_,List.getElem?_eq_getElem hk,hq⟩
      rw [this]; simp
theorem p_contains_int (d:List Int) (p:Int→Option Bool) (q:Int→Bool) (h :∀x∈d,p x=some (q x)):m_slices_ContainsFunc_int64_int64 d p=some (d.any q):=by
  obtain ⟨i,h1,h2⟩:=p_index_int d p q h
  simp -implicitDefEqProofs only [m_slices_ContainsFunc_int64_int64,h1,Option.bind_some,h2]
theorem p_wellFormed (x:DAgent) (hp:x.ports.length≤9223372036854775807):m_impl_wellFormed x=some (agentOk x):=by
  have hc:=p_contains_int x.data (fun x0=>m_impl_wellFormed_1 x0) (fun x0=>!defIx x0) (fun y _=>by simp [m_impl_wellFormed_1,p_isDef])
  have hall:x.data.all defIx = !(x.data.any fun x0=>!defIx x0):=by rw [List.not_any_eq_all_not]; simp
  have e0:((x.data.length:Int)==0)=decide (x.data.length=0):=by rw [Bool.eq_iff_iff]; simp
  have i2:((x.data.length:Int)=2)↔x.data.length=2:=by omega
  have i1:((x.data.length:Int)=1)↔x.data.length=1:=by omega
  have g1:((x.data.length:Int) ≥ 1)↔1≤x.data.length:=by omega
  have g4:((x.data.length:Int)≤4)↔x.data.length≤4:=by omega
  have ip:((x.ports.length:Int)=0)↔x.ports.length=0:=by omega
  unfold m_impl_wellFormed agentOk
  simp only [p_ifields _ _ hp,Option.bind_some,hc,p_isInt,p_isOper,p_isDef,content,hall,e0,Bool.cond_eq_ite,beq_iff_eq,bne_iff_ne,ne_eq,decide_eq_true_eq,i1,i2,ip,g1,g4,ge_iff_le]
  generalize hp0:portsOf x.kind (fieldsN x.kind x.ports.length)=p
  by_cases h0:x.ports.length=0
  · by_cases h1:0 < p
    · have:¬ (x.ports.length:Int)=p:=by omega
      simp [h0]; intro h2; omega
    · simp [h0,h1]
  by_cases h2:p=(x.ports.length:Int)
  case neg=>
    have h2':¬ (x.ports.length:Int)=p:=fun e=>h2 e.symm
    simp [h0,h2,h2']
  have hpos:0 < x.ports.length:=by omega
  have v4:x.value < 4↔x.value≤3:=by omega
  subst h2
  generalize hany:(x.data.any fun x0=>!defIx x0)=anyb
  cases h3:allowed x.kind x.level
  · simp [h0]
  by_cases k6:x.kind=6
  · cases hi:int32B x.value <;> simp [h0,hpos,k6]
  by_cases k7:x.kind=7
  · cases hi:operB x.value <;> simp [h0,hpos,k7]
  by_cases k8:x.kind=8
  · by_cases hd:x.data.length=1
    · obtain ⟨y,hy⟩ :∃y,x.data=[y]:=List.length_eq_one_iff.1 hd
      cases hi:operB x.value <;> simp [h0,hpos,k8,hy,getI]
    · cases hi:operB x.value <;> simp [h0,hpos,k8,hd]
  by_cases k9:x.kind=9
  · by_cases v0:0≤x.value <;> by_cases v3:x.value≤3
    all_goals simp [h0,hpos,k9,v0,v3,v4]
  by_cases k10:x.kind=10
  · by_cases v0:x.value=0 <;> by_cases n1:1≤x.data.length <;> by_cases n4:x.data.length≤4 <;> simp [h0,hpos,k10,v0,n1,n4]
  by_cases k11:x.kind=11
  · by_cases v0:x.value=0 <;> by_cases n2:x.data.length=2 <;> simp [h0,hpos,k11,v0,n2]
  by_cases k12:x.kind=12
  · cases hi:defIx x.value <;> simp [h0,hpos,k12]
  by_cases v0:x.value=0 <;> simp [h0,hpos,k6,k7,k8,k9,k10,k11,k12,v0]
theorem agentsOk_iff {xs:List DAgent} : agentsOk xs=true↔AgentsOk xs:=by unfold agentsOk; simp
theorem agents_p {xs:List DAgent} : (∀k,k < xs.length→∃x,xs[k]? = some x∧agentOk x=true∧decide (x.kind=1)=decide (k=0))↔∀(i:Nat) (x:DAgent),xs[i]? = some x→agentOk x=true∧decide (x.kind=1)=decide (i=0):=by
  constructor
  · intro h i x hx
    obtain ⟨y,hy,h1⟩:=h i (lt_of_some hx)
    rw [hx] at hy; injection hy with hy; subst hy; exact h1
  · intro h k hk
    exact ⟨xs[k],List.getElem?_eq_getElem hk,h k _ (List.getElem?_eq_getElem hk)⟩
theorem kind_ne (k:Int) (i:Nat):((k==1) != ((i:Int)==0)) = !(decide (decide (k=1)=decide (i=0))):=by
  have e1:(k==1)=decide (k=1):=by rw [Bool.eq_iff_iff]; simp
  have e2:((i:Int)==0)=decide (i=0):=by rw [Bool.eq_iff_iff]; simp
  rw [e1,e2]
  cases decide (k=1) <;> cases decide (i=0) <;> rfl
open Classical in
theorem p_agents (xs:List DAgent) (hb :∀x∈xs,x.ports.length≤9223372036854775807):m_spec_l11Agents xs=some (agentsOk xs):=by
  unfold m_spec_l11Agents
  by_cases hl:1≤xs.length∧xs.length≤600
  · have h0:inR (xs.length:Int) 1 600=true:=by simp [inR]; omega
    rw [h0,cond_true]
    have h:=allI (L:=m_spec_l11Agents_L1 xs m_spec_l11Agents_A1) (n:=xs.length) (p:=fun k=>∃x,xs[k]? = some x∧agentOk x=true∧decide (x.kind=1)=decide (k=0)) (no:=some false) (K:=some true)
      (fun g k hk ⟨x,hx,h1,h2⟩=>by
        have hm:=hb x (List.mem_of_getElem? hx)
        simp [m_spec_l11Agents_L1,m_spec_l11Agents_B1,hk,getI_nat hx,p_agent x hm,h1,kind_ne,h2])
      (fun g k hk hn=>by
        have hx:=List.getElem?_eq_getElem hk
        have hm:=hb _ (List.getElem_mem hk)
        cases h1:agentOk xs[k] with
        |false=>simp [m_spec_l11Agents_L1,m_spec_l11Agents_B1,hk,getI_lt hk,p_agent _ hm,h1]
        |true=>
          have h2:¬ decide (xs[k].kind=1)=decide (k=0):=fun h2=>hn ⟨_,hx,h1,h2⟩
          simp -implicitDefEqProofs only [m_spec_l11Agents_L1,m_spec_l11Agents_B1,dlt hk,cond_true,getI_lt hk,Option.bind_some,p_agent _ hm,h1,kind_ne,decide_eq_false h2,Bool.not_false,Bool.not_true,Bool.or_true,Bool.false_or,cond_false])
      (fun g=>by simp [m_spec_l11Agents_L1,m_spec_l11Agents_B1,m_spec_l11Agents_A1]) (xs.length+1) (by omega)
    rw [h]
    by_cases ha :∀k,k < xs.length→∃x,xs[k]? = some x∧agentOk x=true∧decide (x.kind=1)=decide (k=0)
    · rw [if_pos ha,agentsOk_iff.2 ⟨hl.1,hl.2,agents_p.1 ha⟩]
    · rw [if_neg ha]
      cases hc:agentsOk xs with
      |false=>rfl
      |true=>exact absurd (agents_p.2 (agentsOk_iff.1 hc).2.2) ha
  · have h0:inR (xs.length:Int) 1 600=false:=by simp [inR]; omega
    rw [h0,cond_false]
    cases hc:agentsOk xs with
    |false=>rfl
    |true=>exact absurd ⟨(agentsOk_iff.1 hc).1,(agentsOk_iff.1 hc).2.1⟩ hl
open Classical in
theorem p_areAgents (xs:List DAgent) (hb :∀x∈xs,x.ports.length≤9223372036854775807):m_impl_areAgents xs=some (agentsOk xs):=by
  unfold m_impl_areAgents
  by_cases hl:1≤xs.length∧xs.length≤600
  · have h0:decide ((xs.length:Int) < 1)=false:=by simp; omega
    have h0':decide ((xs.length:Int) > 600)=false:=by simp; omega
    rw [h0,h0',cond_false,cond_false]
    have h:=allI (L:=m_impl_areAgents_L1 xs m_impl_areAgents_A1) (n:=xs.length) (p:=fun k=>∃x,xs[k]? = some x∧agentOk x=true∧decide (x.kind=1)=decide (k=0)) (no:=some false) (K:=some true)
      (fun g k hk ⟨x,hx,h1,h2⟩=>by
        have hm:=hb x (List.mem_of_getElem? hx)
        simp [m_impl_areAgents_L1,m_impl_areAgents_B1,hk,getI_nat hx,p_wellFormed x hm,h1,kind_ne,h2])
      (fun g k hk hn=>by
        have hx:=List.getElem?_eq_getElem hk
        have hm:=hb _ (List.getElem_mem hk)
        cases h1:agentOk xs[k] with
        |false=>simp [m_impl_areAgents_L1,m_impl_areAgents_B1,hk,getI_lt hk,p_wellFormed _ hm,h1]
        |true=>
          have h2:¬ decide (xs[k].kind=1)=decide (k=0):=fun h2=>hn ⟨_,hx,h1,h2⟩
          simp -implicitDefEqProofs only [m_impl_areAgents_L1,m_impl_areAgents_B1,dlt hk,cond_true,getI_lt hk,Option.bind_some,p_wellFormed _ hm,h1,kind_ne,decide_eq_false h2,Bool.not_false,Bool.not_true,Bool.or_true,Bool.false_or,cond_false])
      (fun g=>by simp [m_impl_areAgents_L1,m_impl_areAgents_B1,m_impl_areAgents_A1]) (xs.length+1) (by omega)
    rw [h]
    by_cases ha :∀k,k < xs.length→∃x,xs[k]? = some x∧agentOk x=true∧decide (x.kind=1)=decide (k=0)
    · rw [if_pos ha,agentsOk_iff.2 ⟨hl.1,hl.2,agents_p.1 ha⟩]
    · rw [if_neg ha]
      cases hc:agentsOk xs with
      |false=>rfl
      |true=>exact absurd (agents_p.2 (agentsOk_iff.1 hc).2.2) ha
  · have hc:agentsOk xs=false:=by
      cases hc:agentsOk xs with
      |false=>rfl
      |true=>exact absurd ⟨(agentsOk_iff.1 hc).1,(agentsOk_iff.1 hc).2.1⟩ hl
    by_cases h1:xs.length < 1
    · have h0:decide ((xs.length:Int) < 1)=true:=by simp; omega
      rw [h0,cond_true,hc]
    · have h0:decide ((xs.length:Int) < 1)=false:=by simp; omega
      have h0':decide ((xs.length:Int) > 600)=true:=by simp; omega
      rw [h0,h0',cond_false,cond_true,hc]
/-- No list is longer than what a net of the laws may hold. -/
def Small (xs:List DAgent):Prop:=szAgentS xs≤1048576
theorem Small.len {xs:List DAgent} (h:Small xs):xs.length≤1048576:=by unfold Small szAgentS at h; omega
theorem sum_mem {α:Type} {f:α→Nat} {xs:List α} {x:α} (h:x∈xs):f x≤(xs.map f).sum:=by
  induction xs with
  |nil=>cases h
  |cons y ys ih=>
    rcases List.mem_cons.1 h with rfl|h
    · simp
    · have:=ih h; simp; omega
theorem Small.ports {xs:List DAgent} (h:Small xs) {x:DAgent} (hx:x∈xs):x.ports.length≤1048576:=by
  have:=sum_mem (f:=szAgent) hx
  have e:szAgent x=x.data.length+x.ports.length:=rfl
  unfold Small szAgentS at h; omega
theorem Small.data {xs:List DAgent} (h:Small xs) {x:DAgent} (hx:x∈xs):x.data.length≤1048576:=by
  have:=sum_mem (f:=szAgent) hx
  have e:szAgent x=x.data.length+x.ports.length:=rfl
  unfold Small szAgentS at h; omega
theorem Small.ports' {xs:List DAgent} (h:Small xs) :∀x∈xs,x.ports.length≤9223372036854775807:=fun x hx=>by have:=h.ports hx; omega
theorem portsFrom_len :∀(i:Nat) (xs:List DAgent),(portsFrom i xs).length≤(xs.map szAgent).sum
  |_,[]=>by simp [portsFrom]
  |i,x :: xs=>by have:=portsFrom_len (i+1) xs; simp [portsFrom,agentPorts,szAgent]; omega
theorem Small.all {xs:List DAgent} (h:Small xs):(allPorts xs).length≤1048576:=by
  have:=portsFrom_len 0 xs
  unfold Small szAgentS at h; unfold allPorts; omega
theorem agentAt_nat {xs:List DAgent} {k:Nat} {x:DAgent} (h:xs[k]? = some x):agentAt xs (k:Int)=x:=by simp [agentAt,List.getD,h]
theorem p_port (xs:List DAgent) (p:DPort) (h:Small xs):m_spec_l11Port xs p=some (hasPort xs p):=by
  unfold m_spec_l11Port
  have hl:=h.len
  rw [ck_ok (by omega),Option.bind_some]
  by_cases ha:0≤p.agent∧p.agent < xs.length
  · obtain ⟨k,hk⟩:=Int.eq_ofNat_of_zero_le ha.1
    have hkl:k < xs.length:=by omega
    have h0:inR p.agent 0 ((xs.length:Int) - 1)=true:=by simp [inR]; omega
    have hx:=List.getElem?_eq_getElem hkl
    have hp:=h.ports (List.getElem_mem hkl)
    rw [h0,cond_true,hk,getI_nat hx,Option.bind_some,ck_ok (by omega),Option.bind_some]
    congr 1
    rw [Bool.eq_iff_iff]
    simp [inR,hasPort,hk,agentAt_nat hx]
    omega
  · have h0:inR p.agent 0 ((xs.length:Int) - 1)=false:=by simp [inR]; omega
    rw [h0,cond_false]
    congr 1
    simp [hasPort]
    omega
theorem p_hasPort (xs:List DAgent) (p:DPort):m_impl_hasPort xs p=some (hasPort xs p):=by
  unfold m_impl_hasPort
  by_cases h1:0≤p.agent
  · by_cases h2:p.agent < xs.length
    · by_cases h3:0≤p.slot
      · obtain ⟨k,hk⟩:=Int.eq_ofNat_of_zero_le h1
        have hkl:k < xs.length:=by omega
        have hx:=List.getElem?_eq_getElem hkl
        simp [h3,hk,hkl,hasPort,getI_nat hx,agentAt_nat hx]
      · simp [h1,h2,h3,hasPort]
    · simp [h1,h2,hasPort]
  · simp [h1,hasPort]
theorem p_peer {xs:List DAgent} {p:DPort} (h:hasPort xs p=true):m_impl_Net_peer ⟨xs⟩ p=some (peer xs p):=by
  obtain ⟨i,k,x,rfl,hx,hk,ha⟩:=hasPort_at h
  have hy:=List.getElem?_eq_getElem hk
  simp [m_impl_Net_peer,getI_nat hx,getI_nat hy,peer_of hx hy]
theorem port_eq (q p:DPort):(q.agent==p.agent && q.slot==p.slot)=decide (q=p):=by
  rw [Bool.eq_iff_iff]
  cases q; cases p; simp
theorem badPort_at {xs:List DAgent} {i k:Nat} {x:DAgent} {q:DPort} (hx:xs[i]? = some x) (hq:x.ports[k]? = some q):badPort xs ⟨i,k⟩=(decide (q=⟨i,k⟩)||!hasPort xs q||!decide (peer xs q=⟨i,k⟩)):=by
  unfold badPort; rw [peer_of hx hq]
open Classical in
theorem p_ok_inner {xs:List DAgent} (hs:Small xs) {i:Nat} {x:DAgent} (hx:xs[i]? = some x) (rec:Int→Option Bool) (g:Nat) (hg:x.ports.length < g) :
    ((∀k,k < x.ports.length→badPort xs ⟨i,k⟩=false)∧m_spec_l11Ok_L2 ⟨xs⟩ (i:Int) x (m_spec_l11Ok_A2 rec (i:Int)) g 0=rec ((i:Int)+1)) ∨ ((¬∀k,k < x.ports.length→badPort xs ⟨i,k⟩=false)∧m_spec_l11Ok_L2 ⟨xs⟩ (i:Int) x (m_spec_l11Ok_A2 rec (i:Int)) g 0=some false):=by
  have hi:=lt_of_some hx
  have hl:=hs.len
  refine (allO (L:=m_spec_l11Ok_L2 ⟨xs⟩ (i:Int) x (m_spec_l11Ok_A2 rec (i:Int))) (n:=x.ports.length) (p:=fun k=>badPort xs ⟨i,k⟩=false) (no:=some false) (K:=rec ((i:Int)+1)) ?_ ?_ ?_ g hg)
  · intro g k hk hb
    have hq:=List.getElem?_eq_getElem hk
    rw [badPort_at hx hq] at hb
    simp only [Bool.or_eq_false_iff,Bool.not_eq_false',decide_eq_false_iff_not,decide_eq_true_eq] at hb
    obtain ⟨⟨h1,h2⟩,h3⟩:=hb
    obtain ⟨i2,k2,x2,he,hx2,hk2,_⟩:=hasPort_at h2
    have hq2:=List.getElem?_eq_getElem hk2
    have h1':(x.ports[k].agent==(i:Int) && x.ports[k].slot==(k:Int))=false:=by
      have:=port_eq x.ports[k] ⟨i,k⟩
      simp only at this
      rw [this]; simpa using h1
    have h3':(x2.ports[k2].agent==(i:Int) && x2.ports[k2].slot==(k:Int))=true:=by
      have:=port_eq x2.ports[k2] ⟨i,k⟩
      simp only at this
      rw [this]
      rw [he,peer_of hx2 hq2] at h3
      simpa using h3
    have ha:x.ports[k].agent=(i2:Int):=by rw [he]
    have hsl:x.ports[k].slot=(k2:Int):=by rw [he]
    have e1:getI xs x.ports[k].agent=some x2:=by rw [ha]; exact getI_nat hx2
    have e2:getI x2.ports x.ports[k].slot=some x2.ports[k2]:=by rw [hsl]; exact getI_nat hq2
    simp -implicitDefEqProofs only [m_spec_l11Ok_L2,m_spec_l11Ok_B2,dlt hk,cond_true,getI_lt hk,Option.bind_some,h1',cond_false,p_port xs _ hs,h2,e1,e2,h3']
  · intro g k hk hb
    have hq:=List.getElem?_eq_getElem hk
    have hb:badPort xs ⟨i,k⟩=true:=by simpa using hb
    rw [badPort_at hx hq] at hb
    have hE:=port_eq x.ports[k] ⟨i,k⟩
    simp only at hE
    by_cases h1:x.ports[k] = (⟨i,k⟩:DPort)
    · have:(x.ports[k].agent==(i:Int) && x.ports[k].slot==(k:Int))=true:=by rw [hE]; simpa using h1
      simp -implicitDefEqProofs only [m_spec_l11Ok_L2,m_spec_l11Ok_B2,dlt hk,cond_true,getI_lt hk,Option.bind_some,this]
    · have h1':(x.ports[k].agent==(i:Int) && x.ports[k].slot==(k:Int))=false:=by rw [hE]; simpa using h1
      cases h2:hasPort xs x.ports[k] with
      |false=>simp -implicitDefEqProofs only [m_spec_l11Ok_L2,m_spec_l11Ok_B2,dlt hk,cond_true,getI_lt hk,Option.bind_some,h1',cond_false,p_port xs _ hs,h2]
      |true=>
        have h3:¬ peer xs x.ports[k] = (⟨i,k⟩:DPort):=by
          intro h3; rw [h2,h3] at hb; simp [h1] at hb
        obtain ⟨i2,k2,x2,he,hx2,hk2,_⟩:=hasPort_at h2
        have hq2:=List.getElem?_eq_getElem hk2
        have h3':(x2.ports[k2].agent==(i:Int) && x2.ports[k2].slot==(k:Int))=false:=by
          have:=port_eq x2.ports[k2] ⟨i,k⟩
          simp only at this
          rw [this]
          rw [he,peer_of hx2 hq2] at h3
          simpa using h3
        have ha:x.ports[k].agent=(i2:Int):=by rw [he]
        have hsl:x.ports[k].slot=(k2:Int):=by rw [he]
        have e1:getI xs x.ports[k].agent=some x2:=by rw [ha]; exact getI_nat hx2
        have e2:getI x2.ports x.ports[k].slot=some x2.ports[k2]:=by rw [hsl]; exact getI_nat hq2
        simp -implicitDefEqProofs only [m_spec_l11Ok_L2,m_spec_l11Ok_B2,dlt hk,cond_true,getI_lt hk,Option.bind_some,h1',cond_false,p_port xs _ hs,h2,e1,e2,h3']
  · intro g
    simp -implicitDefEqProofs only [m_spec_l11Ok_L2,m_spec_l11Ok_B2,dge,cond_false,m_spec_l11Ok_A2]
    rw [ck_ok (by omega),Option.bind_some]
theorem portsOk_p {xs:List DAgent} : (∀i,i < xs.length→∃x,xs[i]? = some x∧∀k,k < x.ports.length→badPort xs ⟨i,k⟩=false)↔PortsOk xs:=by
  constructor
  · intro h i x hx k hk
    obtain ⟨y,hy,h1⟩:=h i (lt_of_some hx)
    rw [hx] at hy; injection hy with hy; subst hy; exact h1 k hk
  · intro h i hi
    exact ⟨xs[i],List.getElem?_eq_getElem hi,fun k hk=>h i _ (List.getElem?_eq_getElem hi) k hk⟩
theorem validNet_iff {x:DNet} : validNet x=true↔AgentsOk x.agents∧PortsOk x.agents:=by unfold validNet; simp
open Classical in
theorem p_ok (d:DNet) (hs:Small d.agents):m_spec_l11Ok d=some (validNet d):=by
  obtain ⟨xs⟩:=d
  have hs:Small xs:=hs
  unfold m_spec_l11Ok
  rw [p_agents xs hs.ports',Option.bind_some]
  cases hag:agentsOk xs with
  |false=>
    rw [cond_false]
    cases hv:validNet ⟨xs⟩ with
    |false=>rfl
    |true=>rw [agentsOk_iff.2 (validNet_iff.1 hv).1] at hag; cases hag
  |true=>
    rw [cond_true]
    have h:=allO (L:=m_spec_l11Ok_L1 ⟨xs⟩ m_spec_l11Ok_A1) (n:=xs.length) (p:=fun i=>∃x,xs[i]? = some x∧∀k,k < x.ports.length→badPort xs ⟨i,k⟩=false) (no:=some false) (K:=some true)
      (fun g i hi ⟨x,hx,hp⟩=>by
        simp -implicitDefEqProofs only [m_spec_l11Ok_L1,m_spec_l11Ok_B1,dlt hi,cond_true,getI_nat hx,Option.bind_some]
        rcases p_ok_inner hs hx (m_spec_l11Ok_L1 ⟨xs⟩ m_spec_l11Ok_A1 g) _ (Nat.lt_succ_self _) with ⟨_,h⟩|⟨hn,_⟩
        · exact h
        · exact absurd hp hn)
      (fun g i hi hn=>by
        have hx:=List.getElem?_eq_getElem hi
        simp -implicitDefEqProofs only [m_spec_l11Ok_L1,m_spec_l11Ok_B1,dlt hi,cond_true,getI_lt hi,Option.bind_some]
        rcases p_ok_inner hs hx (m_spec_l11Ok_L1 ⟨xs⟩ m_spec_l11Ok_A1 g) _ (Nat.lt_succ_self _) with ⟨hp,_⟩|⟨_,h⟩
        · exact absurd ⟨_,hx,hp⟩ hn
        · exact h)
      (fun g=>by simp -implicitDefEqProofs only [m_spec_l11Ok_L1,m_spec_l11Ok_B1,dge,cond_false,m_spec_l11Ok_A1]) (xs.length+1) (Nat.lt_succ_self _)
    rcases h with ⟨ha,h⟩|⟨ha,h⟩
    · rw [validNet_iff.2 ⟨agentsOk_iff.1 hag,portsOk_p.1 ha⟩]; exact h
    · cases hv:validNet ⟨xs⟩ with
      |false=>exact h
      |true=>exact absurd (portsOk_p.2 (validNet_iff.1 hv).2) ha
theorem agentPorts_len (i:Nat) (x:DAgent):(agentPorts i x).length=x.ports.length:=by simp [agentPorts]
theorem p_ports_inner {i:Nat} {x:DAgent} (rec:List DPort→Int→Option (List DPort)) (acc:List DPort) (hb:acc.length+x.ports.length≤4294967296) (hi:(i:Int) < 9223372036854775807) (g:Nat) (hg:x.ports.length < g) :
    m_impl_Net_ports_L2 (i:Int) x (m_impl_Net_ports_A2 rec (i:Int)) g acc 0=rec (acc ++ agentPorts i x) ((i:Int)+1):=by
  have h:=traj (L:=fun g (s:List DPort × Int)=>m_impl_Net_ports_L2 (i:Int) x (m_impl_Net_ports_A2 rec (i:Int)) g s.1 s.2) (st:=fun k=>(acc ++ (List.range k).map (fun (j:Nat)=>(⟨i,j⟩:DPort)),(k:Int))) (n:=x.ports.length) (r:=rec (acc ++ agentPorts i x) ((i:Int)+1))
    (fun g k hk=>by
      simp -implicitDefEqProofs only [m_impl_Net_ports_L2,m_impl_Net_ports_B2,dlt hk,cond_true]
      rw [mustP_ok (by simp; omega),Option.bind_some]
      rw [List.range_succ,List.map_append,List.append_assoc]
      simp only [List.map_cons,List.map_nil,Int.natCast_add,Int.cast_ofNat_Int])
    (fun g=>by
      simp -implicitDefEqProofs only [m_impl_Net_ports_L2,m_impl_Net_ports_B2,dge,cond_false,m_impl_Net_ports_A2]
      rw [ck_ok (by omega),Option.bind_some,agentPorts]) g hg
  simpa using h
theorem p_ports (d:DNet) (hs:Small d.agents):m_impl_Net_ports d=some (allPorts d.agents):=by
  obtain ⟨xs⟩:=d
  have hs:Small xs:=hs
  have hl:=hs.len
  have ha:=hs.all
  unfold m_impl_Net_ports
  have h:=traj (L:=fun g (s:List DPort × Int)=>m_impl_Net_ports_L1 ⟨xs⟩ m_impl_Net_ports_A1 g s.1 s.2) (st:=fun k=>(allPorts (xs.take k),(k:Int))) (n:=xs.length) (r:=some (allPorts xs))
    (fun g k hk=>by
      have hx:=List.getElem?_eq_getElem hk
      have hlen:(allPorts (xs.take (k+1))).length≤(allPorts xs).length:=by
        have:allPorts xs=portsFrom 0 (xs.take (k+1) ++ xs.drop (k+1)):=by rw [List.take_append_drop]; rfl
        rw [this,portsFrom_append,List.length_append]
        exact Nat.le_add_right _ _
      rw [allPorts_take hx,List.length_append,agentPorts_len] at hlen
      simp -implicitDefEqProofs only [m_impl_Net_ports_L1,m_impl_Net_ports_B1,dlt hk,cond_true,getI_lt hk,Option.bind_some]
      rw [p_ports_inner (m_impl_Net_ports_L1 ⟨xs⟩ m_impl_Net_ports_A1 g) _ (by omega) (by omega) _ (Nat.lt_succ_self _),allPorts_take hx]
      simp only [Int.natCast_add,Int.cast_ofNat_Int])
    (fun g=>by
      simp -implicitDefEqProofs only [m_impl_Net_ports_L1,m_impl_Net_ports_B1,dge,cond_false,m_impl_Net_ports_A1,List.take_length]) (xs.length+1) (Nat.lt_succ_self _)
  exact h
theorem p_index_port (d:List DPort) (p:DPort→Option Bool) (q:DPort→Bool) (h :∀x∈d,p x=some (q x)) :∃i,m_slices_IndexFunc_impl_Port_impl_Port d p=some i∧decide (i ≥ 0)=d.any q:=by
  unfold m_slices_IndexFunc_impl_Port_impl_Port
  by_cases ha :∃k,k < d.length∧∃x,d[k]? = some x∧q x=true
  · obtain ⟨m,⟨hm,x,hx,hq⟩,hl⟩ :∃m,(m < d.length∧∃x,d[m]? = some x∧q x=true)∧∀k,k < m→∀y,d[k]? = some y→q y=false:=by
      obtain ⟨k0,hk0⟩:=ha
      induction k0 using Nat.strongRecOn with
      |_ k0 ih=>
        by_cases hh :∃k,k < k0∧k < d.length∧∃x,d[k]? = some x∧q x=true
        · obtain ⟨k,hk,hk1⟩:=hh; exact ih k hk hk1
        · exact ⟨k0,hk0,fun k hk y hy=>by
            cases hq:q y with
            |false=>rfl
            |true=>exact absurd ⟨k,hk,lt_of_some hy,y,hy,hq⟩ hh⟩
    refine ⟨m,?_,?_⟩
    · refine trajI (n:=m) (fun g k hk=>?_) (fun g=>?_) _ (by omega)
      · have hkl:k < d.length:=by omega
        have hy:=List.getElem?_eq_getElem hkl
        simp [m_slices_IndexFunc_impl_Port_impl_Port_L1,m_slices_IndexFunc_impl_Port_impl_Port_B1,hkl,getI_lt hkl,h _ (List.getElem_mem hkl),hl k hk _ hy]
      · have hmem:=List.mem_of_getElem? hx
        simp [m_slices_IndexFunc_impl_Port_impl_Port_L1,m_slices_IndexFunc_impl_Port_impl_Port_B1,hm,getI_nat hx,h _ hmem,hq]
    · have:d.any q=true:=List.any_eq_true.2 ⟨x,List.mem_of_getElem? hx,hq⟩
      rw [this]; simp
  · refine ⟨-1,?_,?_⟩
    · refine trajI (n:=d.length) (fun g k hk=>?_) (fun g=>?_) _ (by omega)
      · have hq:q d[k] = false:=by
          cases hq:q d[k] with
          |false=>rfl
          |true=>exact absurd ⟨k,hk,_,List.getElem?_eq_getElem hk,hq⟩ ha
        simp [m_slices_IndexFunc_impl_Port_impl_Port_L1,m_slices_IndexFunc_impl_Port_impl_Port_B1,hk,getI_lt hk,h _ (List.getElem_mem hk),hq]
      · simp [m_slices_IndexFunc_impl_Port_impl_Port_L1,m_slices_IndexFunc_impl_Port_impl_Port_B1,m_slices_IndexFunc_impl_Port_impl_Port_A1]
    · have:d.any q=false:=List.any_eq_false.2 fun x hx hq=>by
        obtain ⟨k,hk,rfl⟩:=List.getElem_of_mem hx
        exact ha ⟨k,hk,_,List.getElem?_eq_getElem hk,hq⟩
      rw [this]; simp
theorem p_contains_port (d:List DPort) (p:DPort→Option Bool) (q:DPort→Bool) (h :∀x∈d,p x=some (q x)):m_slices_ContainsFunc_impl_Port_impl_Port d p=some (d.any q):=by
  obtain ⟨i,h1,h2⟩:=p_index_port d p q h
  simp -implicitDefEqProofs only [m_slices_ContainsFunc_impl_Port_impl_Port,h1,Option.bind_some,h2]
theorem p_valid1 {xs:List DAgent} {p:DPort} (h:hasPort xs p=true):m_impl_ValidNet_1 p ⟨xs⟩=some (badPort xs p):=by
  unfold m_impl_ValidNet_1 badPort
  rw [p_peer h,Option.bind_some,port_eq]
  by_cases h1:peer xs p=p
  · simp [h1]
  · cases h2:hasPort xs (peer xs p) with
    |false=>simp [h1,p_hasPort,h2]
    |true=>simp [h1,p_hasPort,h2,p_peer h2,port_eq]
theorem p_valid (d:DNet) (hs:Small d.agents):m_impl_ValidNet d=some (validNet d):=by
  obtain ⟨xs⟩:=d
  have hs:Small xs:=hs
  unfold m_impl_ValidNet
  rw [p_areAgents xs hs.ports',Option.bind_some]
  cases hag:agentsOk xs with
  |false=>
    rw [cond_false]
    cases hv:validNet ⟨xs⟩ with
    |false=>rfl
    |true=>rw [agentsOk_iff.2 (validNet_iff.1 hv).1] at hag; cases hag
  |true=>
    rw [cond_true,p_ports _ hs,Option.bind_some]
    have hc:=p_contains_port (allPorts xs) (fun x0=>m_impl_ValidNet_1 x0 ⟨xs⟩) (badPort xs) (fun p hp=>by
      obtain ⟨j,x,k,h1,h2,rfl⟩:=mem_portsFrom.1 hp
      have hh:=hasPort_of h1 h2
      simp only [Nat.zero_add]
      exact p_valid1 hh)
    rw [hc,Option.bind_some]
    congr 1
    rw [Bool.eq_iff_iff,validNet_iff,Bool.not_eq_true',any_allPorts]
    exact ⟨fun h=>⟨agentsOk_iff.1 hag,h⟩,fun h=>h.2⟩
end
section
open Go.RowKit
theorem copy_set {α:Type} {xs:List α} {z:α} {k:Nat} (hk:k < xs.length):setI (xs.take k ++ List.replicate (xs.length - k) z) (k:Int) xs[k] = xs.take (k+1) ++ List.replicate (xs.length - (k+1)) z:=by
  rw [setI_nat]
  obtain ⟨m,hm⟩ :∃m,xs.length - k=m+1:=⟨xs.length - k - 1,by omega⟩
  have hm2:xs.length - (k+1)=m:=by omega
  have hl:(xs.take k).length=k:=by simp; omega
  rw [hm,hm2,List.replicate_succ,List.set_append_right _ _ (by omega),hl,Nat.sub_self,List.set_cons_zero,List.take_succ_eq_append_getElem hk,List.append_assoc]
  rfl
theorem copy_get {α:Type} {xs:List α} {z:α} {k:Nat} (hk:k < xs.length):getI (xs.take k ++ List.replicate (xs.length - k) z) (k:Int)=some z:=by
  have hl:(xs.take k).length=k:=by simp; omega
  refine getI_nat ?_
  rw [List.getElem?_append_right (by omega),hl,Nat.sub_self,List.getElem?_replicate]
  simp; omega
theorem copyI {α ρ:Type} {L:Nat→List α→Int→Option ρ} {xs:List α} {z:α} {K:List α→Option ρ} (h :∀g (k:Nat) acc (hk:k < xs.length),getI acc (k:Int)=some z→L (g+1) acc (k:Int)=L g (setI acc (k:Int) xs[k]) ((k:Int)+1)) (he :∀g acc,L (g+1) acc (xs.length:Int)=K acc) :
    L (xs.length+1) (List.replicate xs.length z) 0=K xs:=by
  have:=traj (L:=fun g (s:List α × Int)=>L g s.1 s.2) (st:=fun k=>(xs.take k ++ List.replicate (xs.length - k) z,(k:Int))) (n:=xs.length) (r:=K xs)
    (fun g k hk=>by
      simp only
      rw [h g k _ hk (copy_get hk),copy_set hk]
      simp only [Int.natCast_add,Int.cast_ofNat_Int])
    (fun g=>by simp only; rw [he]; simp) (xs.length+1) (Nat.lt_succ_self _)
  simpa using this
theorem eqI {α ρ:Type} [DecidableEq α] {L:Nat→Int→Option ρ} {xs ys:List α} {no yes:Option ρ} (hl:xs.length=ys.length) (h :∀g (k:Nat) (hx:k < xs.length) (hy:k < ys.length),L (g+1) (k:Int)=if xs[k] = ys[k] then L g ((k:Int)+1) else no) (he :∀g,L (g+1) (xs.length:Int)=yes) (g:Nat) (hg:xs.length < g) :
    L g 0=if xs=ys then yes else no:=by
  have key:=allO (L:=L) (n:=xs.length) (p:=fun k=>xs[k]? = ys[k]?) (no:=no) (K:=yes)
    (fun g k hk hp=>by
      have hy:k < ys.length:=by omega
      rw [h g k hk hy,if_pos]
      rw [List.getElem?_eq_getElem hk,List.getElem?_eq_getElem hy] at hp
      injection hp)
    (fun g k hk hp=>by
      have hy:k < ys.length:=by omega
      rw [h g k hk hy,if_neg]
      intro e
      rw [List.getElem?_eq_getElem hk,List.getElem?_eq_getElem hy,e] at hp
      exact hp rfl) he g hg
  rcases key with ⟨h1,h2⟩|⟨h1,h2⟩
  · have e:xs=ys:=List.ext_getElem? fun k=>by
      by_cases hk:k < xs.length
      · exact h1 k hk
      · rw [List.getElem?_eq_none (by omega),List.getElem?_eq_none (by omega)]
    rw [if_pos e,h2]
  · rw [if_neg,h2]
    intro e
    exact h1 fun k _=>by rw [e]
end
section
open Go.RowKit
theorem bne_nat {n m:Nat} : ((n:Int) != (m:Int)) = !decide (n=m):=by
  by_cases h:n=m
  · subst h; simp
  · simp [h]; omega
theorem ite_dec {p:Prop} [Decidable p] : (if p then some true else some false:Option Bool)=some (decide p):=by
  by_cases h:p <;> simp [h]
theorem decide_len {α:Type} [DecidableEq α] {xs ys:List α} (h:¬ xs.length=ys.length):decide (xs=ys)=false:=decide_eq_false fun e=>h (by rw [e])
end
section
open Go.RowKit
noncomputable instance:DecidableEq DType:=fun a b=>Classical.propDecidable (a=b)
noncomputable instance:DecidableEq DTypedNet:=fun a b=>Classical.propDecidable (a=b)
/-- Names and rows are not longer than Go's largest length. -/
inductive OkTy:DType→Prop
  |mk {x:DType} (h:x.name.size≤maxLen) (hl:x.kids.length≤maxLen) (hk :∀y,y∈x.kids→OkTy y):OkTy x
theorem OkTy.name {x:DType} (h:OkTy x):x.name.size≤maxLen:=by cases h; assumption
theorem OkTy.len {x:DType} (h:OkTy x):x.kids.length≤maxLen:=by cases h; assumption
theorem OkTy.kids {x:DType} (h:OkTy x) :∀y∈x.kids,OkTy y:=by cases h; assumption
def OkTyS (xs:List DType):Prop:=xs.length≤maxLen∧∀y∈xs,OkTy y
def OkTySS (xs:List (List DType)):Prop:=xs.length≤maxLen∧∀y∈xs,OkTyS y
theorem maxLen_le {n:Nat} (h:n≤maxLen):n≤9223372036854775807:=by unfold maxLen at h; omega
mutual
def szType:DType→Nat
  |⟨_,n,ks⟩=>n.size+(ks.length+szTypeL ks)
def szTypeL:List DType→Nat
  |[]=>0
  |x :: xs=>szType x+szTypeL xs
end
def szTypeS (xs:List DType):Nat:=xs.length+szTypeL xs
def szTypeSS (xs:List (List DType)):Nat:=xs.length+(xs.map szTypeS).sum
theorem szType_eq (x:DType):szType x=x.name.size+szTypeS x.kids:=by
  obtain ⟨a,b,c⟩:=x
  rw [szType]; rfl
theorem szTypeL_eq :∀xs:List DType,szTypeL xs=(xs.map szType).sum
  |[]=>by rw [szTypeL]; rfl
  |x :: xs=>by rw [szTypeL,szTypeL_eq xs,List.map_cons,List.sum_cons]
theorem szTypeS_eq (xs:List DType):szTypeS xs=xs.length+(xs.map szType).sum:=by unfold szTypeS; rw [szTypeL_eq]
theorem sz_kids (x:DType):SizeOf.sizeOf x.kids < SizeOf.sizeOf x:=by
  obtain ⟨a,b,c⟩:=x
  simp only [DType.mk.sizeOf_spec]
  omega
theorem sz_posS (xs:List DType):0 < SizeOf.sizeOf xs:=by cases xs <;> simp <;> omega
theorem szL_step {left:Int} {a b:Nat} : (if szL left a < 0 then -1 else szL (szL left a) b)=szL left (a+b):=by
  unfold szL
  by_cases h:left - a < 0
  · rw [if_pos h,if_pos (by decide),if_pos (by omega)]
  · rw [if_neg h,if_neg h]
    by_cases h2:left - a - b < 0
    · rw [if_pos h2,if_pos (by omega)]
    · rw [if_neg h2,if_neg (by omega)]; omega
/-- A loop that takes sizes away. -/
theorem subI {α:Type} {L:Nat→Int→Int→Option Int} {d:List α} {s:α→Nat} {ok:α→Prop} (h :∀g (k:Nat) x left,d[k]? = some x→0≤left→left≤1048576→L (g+1) left (k:Int)=bif decide (szL left (s x) < 0) then some (-1) else L g (szL left (s x)) ((k:Int)+1)) (he :∀g left,L (g+1) left (d.length:Int)=some left) :
    ∀(m k g:Nat) (left:Int),k+m=d.length→m < g→0≤left→left≤1048576→L g left (k:Int)=some (szL left ((d.drop k).map s).sum):=by
  intro m
  induction m with
  |zero=>
    intro k g left hk hg h0 h1
    obtain ⟨g,rfl⟩ :∃g',g=g'+1:=⟨g - 1,by omega⟩
    rw [show k=d.length by omega,he,List.drop_length]
    simp [szL]; omega
  |succ m ih=>
    intro k g left hk hg h0 h1
    obtain ⟨g,rfl⟩ :∃g',g=g'+1:=⟨g - 1,by omega⟩
    have hx:=List.getElem?_eq_getElem (show k < d.length by omega)
    rw [h g k _ left hx h0 h1,List.drop_eq_getElem_cons (show k < d.length by omega),List.map_cons,List.sum_cons,← szL_step]
    by_cases hn:szL left (s d[k]) < 0
    · rw [decide_eq_true hn,cond_true,if_pos hn]
    · rw [decide_eq_false hn,cond_false,if_neg hn]
      have hle:szL left (s d[k])≤1048576:=by unfold szL; split <;> omega
      exact ih (k+1) g _ (by omega) (by omega) (by omega) hle
theorem p_szTy :∀gas:Nat,(∀(xs:List DType) (left:Int),SizeOf.sizeOf xs≤gas→OkTyS xs→0≤left→left≤1048576→m_laws_szTypeS gas xs left=some (szL left (szTypeS xs)))∧(∀(x:DType) (left:Int),SizeOf.sizeOf x≤gas→OkTy x→0≤left→left≤1048576→m_laws_szType gas x left=some (szL left (szType x)))
  |0=>⟨fun xs left h=>by have:=sz_posS xs; omega,fun x left h=>by have:=x.pos; omega⟩
  |gas+1=>by
    obtain ⟨i1,i2⟩:=p_szTy gas
    refine ⟨fun xs left hg ho h0 h1=>?_,fun x left hg ho h0 h1=>?_⟩
    · have e:m_laws_szTypeS (gas+1) xs left=m_laws_szTypeS_R (m_laws_szTypeS gas) (m_laws_szType gas) xs left:=rfl
      rw [e,szTypeS_eq]
      unfold m_laws_szTypeS_R
      have hl:=maxLen_le ho.1
      rw [ck_ok (by omega),Option.bind_some]
      by_cases hn:left - (xs.length:Int) < 0
      · rw [decide_eq_true hn,cond_true,szL_neg (by omega)]
      · rw [decide_eq_false hn,cond_false]
        have key:=subI (L:=m_laws_szTypeS_L1 (m_laws_szType gas) xs m_laws_szTypeS_A1) (d:=xs) (s:=szType) (ok:=OkTy)
          (fun g k x left hx h0 h1=>by
            have hm:=List.mem_of_getElem? hx
            have hs:=List.sizeOf_lt_of_mem hm
            simp -implicitDefEqProofs only [m_laws_szTypeS_L1,m_laws_szTypeS_B1,dlt (lt_of_some hx),cond_true,getI_nat hx,Option.bind_some,i2 x left (by omega) (ho.2 x hm) h0 h1])
          (fun g left=>by simp -implicitDefEqProofs only [m_laws_szTypeS_L1,m_laws_szTypeS_B1,dge,cond_false,m_laws_szTypeS_A1])
          xs.length 0 (xs.length+1) (left - xs.length) (by omega) (by omega) (by omega) (by omega)
        refine key.trans ?_
        rw [List.drop_zero]
        congr 1
        rw [← szL_step,szL_pos hn,if_neg hn]
    · have e:m_laws_szType (gas+1) x left=m_laws_szType_R (m_laws_szTypeS gas) (m_laws_szType gas) x left:=rfl
      rw [e,szType_eq]
      unfold m_laws_szType_R
      have hl:=maxLen_le ho.name
      have hk:=sz_kids x
      rw [ck_ok (by omega),Option.bind_some]
      by_cases hn:left - (x.name.size:Int) < 0
      · rw [decide_eq_true hn,cond_true,szL_neg (by omega)]
      · rw [decide_eq_false hn,cond_false,i1 _ _ (by omega) ⟨ho.len,ho.kids⟩ (by omega) (by omega),Option.bind_some,← szL_step,szL_pos hn,if_neg hn]
        by_cases h2:szL (left - (x.name.size:Int)) (szTypeS x.kids) < 0
        · rw [decide_eq_true h2,cond_true]
          congr 1
          unfold szL at h2 ⊢
          split at h2
          · rename_i h3; rw [if_pos h3]
          · rename_i h3; omega
        · rw [decide_eq_false h2,cond_false]
theorem nameEq (a b:ByteArray):(a.toList==b.toList)=decide (a=b):=by
  by_cases h:a=b
  · subst h; simp
  · rw [decide_eq_false h,beq_eq_false_iff_ne]
    intro e
    rw [ByteArray.toList_eq,ByteArray.toList_eq] at e
    exact h (Go.WideShapes.bytes_inj e)
theorem typeEq (x y:DType):(x=y)↔(x.kind=y.kind∧x.name=y.name∧x.kids=y.kids):=by
  obtain ⟨a,b,c⟩:=x
  obtain ⟨a',b',c'⟩:=y
  simp
theorem typeDec (x y:DType):decide (x=y)=(x.kind==y.kind && decide (x.name=y.name) && decide (x.kids=y.kids)):=by
  rw [Bool.eq_iff_iff]
  simp only [decide_eq_true_eq,Bool.and_eq_true,beq_iff_eq]
  rw [typeEq,and_assoc]
/-- A loop that asks whether two rows are equal, element by element. -/
theorem rowEq {α:Type} [DecidableEq α] {L:Nat→Int→Option Bool} {xs ys:List α} {q:α→α→Option Bool} (hl:xs.length=ys.length) (hq :∀x∈xs,∀y,q x y=some (decide (x=y)))
    (h :∀g (k:Nat) (hx:k < xs.length) (hy:k < ys.length),L (g+1) (k:Int)=(q xs[k] ys[k]).bind fun b=>bif b then L g ((k:Int)+1) else some false) (he :∀g,L (g+1) (xs.length:Int)=some true):L (xs.length+1) 0=some (decide (xs=ys)):=by
  rw [← ite_dec]
  refine eqI hl (fun g k hx hy=>?_) he _ (Nat.lt_succ_self _)
  rw [h g k hx hy,hq _ (List.getElem_mem hx),Option.bind_some]
  by_cases h2:xs[k] = ys[k]
  · rw [if_pos h2,decide_eq_true h2,cond_true]
  · rw [if_neg h2,decide_eq_false h2,cond_false]
theorem p_eqTy :∀gas:Nat,(∀(xs ys:List DType),SizeOf.sizeOf xs≤gas→m_laws_eqTypeS gas xs ys=some (decide (xs=ys)))∧(∀(x y:DType),SizeOf.sizeOf x≤gas→m_laws_eqType gas x y=some (decide (x=y)))
  |0=>⟨fun xs ys h=>by have:=sz_posS xs; omega,fun x y h=>by have:=x.pos; omega⟩
  |gas+1=>by
    obtain ⟨i1,i2⟩:=p_eqTy gas
    refine ⟨fun xs ys hg=>?_,fun x y hg=>?_⟩
    · have e:m_laws_eqTypeS (gas+1) xs ys=m_laws_eqTypeS_R (m_laws_eqTypeS gas) (m_laws_eqType gas) xs ys:=rfl
      rw [e]
      unfold m_laws_eqTypeS_R
      rw [bne_nat]
      by_cases hl:xs.length=ys.length
      · rw [decide_eq_true hl,Bool.not_true,cond_false]
        exact rowEq (L:=m_laws_eqTypeS_L1 (m_laws_eqType gas) xs ys m_laws_eqTypeS_A1) (q:=m_laws_eqType gas) hl (fun x hx y=>i2 x y (by have:=List.sizeOf_lt_of_mem hx; omega))
          (fun g k hx hy=>by simp -implicitDefEqProofs only [m_laws_eqTypeS_L1,m_laws_eqTypeS_B1,dlt hx,cond_true,getI_nat (List.getElem?_eq_getElem hx),getI_nat (List.getElem?_eq_getElem hy),Option.bind_some])
          (fun g=>by simp -implicitDefEqProofs only [m_laws_eqTypeS_L1,m_laws_eqTypeS_B1,dge,cond_false,m_laws_eqTypeS_A1])
      · rw [decide_eq_false hl,Bool.not_false,cond_true,decide_len hl]
    · have e:m_laws_eqType (gas+1) x y=m_laws_eqType_R (m_laws_eqTypeS gas) (m_laws_eqType gas) x y:=rfl
      have hk:=sz_kids x
      rw [e,typeDec]
      unfold m_laws_eqType_R
      rw [i1 _ _ (by omega),Option.bind_some,nameEq,show (x.kind != y.kind) = !(x.kind==y.kind) from rfl]
      cases h1:x.kind==y.kind <;> cases decide (x.name=y.name) <;> cases decide (x.kids=y.kids) <;> rfl
theorem p_sSameTy :∀(gas:Nat) (x y:DType),SizeOf.sizeOf x≤gas→m_spec_SameType gas x y=some (decide (x=y))
  |0,x,y,h=>by have:=x.pos; omega
  |gas+1,x,y,hg=>by
    have ih:=p_sSameTy gas
    have e:m_spec_SameType (gas+1) x y=m_spec_SameType_R (m_spec_SameType gas) x y:=rfl
    have hk:=sz_kids x
    rw [e,typeDec]
    unfold m_spec_SameType_R
    rw [nameEq,bne_nat,show (x.kind != y.kind) = !(x.kind==y.kind) from rfl]
    by_cases hl:x.kids.length=y.kids.length
    · have key := rowEq (L := m_spec_SameType_L1 x y (m_spec_SameType gas) m_spec_SameType_A1) (q := m_spec_SameType gas) hl (fun a ha b => ih a b (by have := List.sizeOf_lt_of_mem ha; omega))
          (fun g k hx hy=>by simp -implicitDefEqProofs only [m_spec_SameType_L1,m_spec_SameType_B1,dlt hx,cond_true,getI_nat (List.getElem?_eq_getElem hx),getI_nat (List.getElem?_eq_getElem hy),Option.bind_some])
          (fun g=>by simp -implicitDefEqProofs only [m_spec_SameType_L1,m_spec_SameType_B1,dge,cond_false,m_spec_SameType_A1])
      rw [key,decide_eq_true hl,Bool.not_true,cond_false]
      cases h1:x.kind==y.kind <;> cases decide (x.name=y.name) <;> cases decide (x.kids=y.kids) <;> rfl
    · rw [decide_len hl,decide_eq_false hl,Bool.not_false,cond_true]
      cases h1:x.kind==y.kind <;> cases decide (x.name=y.name) <;> rfl
theorem p_sSameTyS (xs ys:List DType):m_spec_l03SameTypes xs ys=some (decide (xs=ys)):=by
  unfold m_spec_l03SameTypes
  rw [bne_nat]
  by_cases hl:xs.length=ys.length
  · rw [decide_eq_true hl,Bool.not_true,cond_false]
    exact rowEq (L:=m_spec_l03SameTypes_L1 xs ys m_spec_l03SameTypes_A1) (q:=fun x y=>m_spec_SameType (SizeOf.sizeOf x) x y) hl (fun x hx y=>p_sSameTy _ x y (Nat.le_refl _))
      (fun g k hx hy=>by simp -implicitDefEqProofs only [m_spec_l03SameTypes_L1,m_spec_l03SameTypes_B1,dlt hx,cond_true,getI_nat (List.getElem?_eq_getElem hx),getI_nat (List.getElem?_eq_getElem hy),Option.bind_some])
      (fun g=>by simp -implicitDefEqProofs only [m_spec_l03SameTypes_L1,m_spec_l03SameTypes_B1,dge,cond_false,m_spec_l03SameTypes_A1])
  · rw [decide_eq_false hl,Bool.not_false,cond_true,decide_len hl]
theorem p_EqFTy (xs ys:List DType) (q:DType→DType→Option Bool) (hq :∀x∈xs,∀y,q x y=some (decide (x=y))):m_slices_EqualFunc_impl_Type_impl_Type_impl_Type_impl_Type xs ys q=some (decide (xs=ys)):=by
  unfold m_slices_EqualFunc_impl_Type_impl_Type_impl_Type_impl_Type
  rw [bne_nat]
  by_cases hl:xs.length=ys.length
  · rw [decide_eq_true hl,Bool.not_true,cond_false]
    exact rowEq (L:=m_slices_EqualFunc_impl_Type_impl_Type_impl_Type_impl_Type_L1 xs ys q m_slices_EqualFunc_impl_Type_impl_Type_impl_Type_impl_Type_A1) (q:=q) hl hq
      (fun g k hx hy=>by simp -implicitDefEqProofs only [m_slices_EqualFunc_impl_Type_impl_Type_impl_Type_impl_Type_L1,m_slices_EqualFunc_impl_Type_impl_Type_impl_Type_impl_Type_B1,dlt hx,cond_true,getI_nat (List.getElem?_eq_getElem hx),getI_nat (List.getElem?_eq_getElem hy),Option.bind_some])
      (fun g=>by simp -implicitDefEqProofs only [m_slices_EqualFunc_impl_Type_impl_Type_impl_Type_impl_Type_L1,m_slices_EqualFunc_impl_Type_impl_Type_impl_Type_impl_Type_B1,dge,cond_false,m_slices_EqualFunc_impl_Type_impl_Type_impl_Type_impl_Type_A1])
  · rw [decide_eq_false hl,Bool.not_false,cond_true,decide_len hl]
theorem p_iSameTy :∀(gas:Nat) (x y:DType),SizeOf.sizeOf x≤gas→m_impl_SameType gas x y=some (decide (x=y))
  |0,x,y,h=>by have:=x.pos; omega
  |gas+1,x,y,hg=>by
    have ih:=p_iSameTy gas
    have e:m_impl_SameType (gas+1) x y=m_impl_SameType_R (m_impl_SameType gas) x y:=rfl
    have hk:=sz_kids x
    rw [e,typeDec]
    unfold m_impl_SameType_R
    rw [nameEq,p_EqFTy _ _ _ (fun a ha b=>ih a b (by have:=List.sizeOf_lt_of_mem ha; omega)),Option.bind_some]
    cases h1:x.kind==y.kind <;> cases decide (x.name=y.name) <;> cases decide (x.kids=y.kids) <;> rfl
theorem p_iSameTyS (xs ys:List DType):m_impl_sameTypes xs ys=some (decide (xs=ys)):=by
  unfold m_impl_sameTypes
  rw [p_EqFTy _ _ _ (fun a ha b=>p_iSameTy _ a b (Nat.le_refl _)),Option.bind_some]
theorem p_toTy :∀gas:Nat,(∀(xs:List DType),SizeOf.sizeOf xs≤gas→szTypeS xs≤1048576→m_laws_toTypeS gas xs=some xs)∧(∀(x:DType),SizeOf.sizeOf x≤gas→szType x≤1048576→m_laws_toType gas x=some x)
  |0=>⟨fun xs h=>by have:=sz_posS xs; omega,fun x h=>by have:=x.pos; omega⟩
  |gas+1=>by
    obtain ⟨i1,i2⟩:=p_toTy gas
    refine ⟨fun xs hg hs=>?_,fun x hg hs=>?_⟩
    · have e:m_laws_toTypeS (gas+1) xs=m_laws_toTypeS_R (m_laws_toTypeS gas) (m_laws_toType gas) xs:=rfl
      rw [szTypeS_eq] at hs
      rw [e]
      unfold m_laws_toTypeS_R
      rw [mustP_ok (by omega),Option.bind_some]
      refine copyI (L:=m_laws_toTypeS_L1 (m_laws_toType gas) xs m_laws_toTypeS_A1) (K:=some)
        (fun g k acc hk hg2=>?_)
        (fun g acc=>by simp -implicitDefEqProofs only [m_laws_toTypeS_L1,m_laws_toTypeS_B1,dge,cond_false,m_laws_toTypeS_A1])
      have hm:=List.getElem_mem hk
      have h1:=List.sizeOf_lt_of_mem hm
      have h2:=sum_mem (f:=szType) hm
      simp -implicitDefEqProofs only [m_laws_toTypeS_L1,m_laws_toTypeS_B1,dlt hk,cond_true,getI_nat (List.getElem?_eq_getElem hk),Option.bind_some,hg2,i2 xs[k] (by omega) (by omega)]
    · have e:m_laws_toType (gas+1) x=m_laws_toType_R (m_laws_toTypeS gas) (m_laws_toType gas) x:=rfl
      have hk:=sz_kids x
      rw [szType_eq] at hs
      rw [e]
      unfold m_laws_toType_R
      rw [i1 _ (by omega) (by omega),Option.bind_some]
      cases x; rfl
end
section
open Go.RowKit
def szTypedNet (x:DTypedNet):Nat:=szNet x.net+szTypeSS x.types
noncomputable instance:DecidableEq DNet:=inferInstance
theorem p_szTySS (xs:List (List DType)) (left:Int) (ho:OkTySS xs) (h0:0≤left) (h1:left≤1048576):m_laws_szTypeSS xs left=some (szL left (szTypeSS xs)):=by
  unfold m_laws_szTypeSS szTypeSS
  have hl:=maxLen_le ho.1
  rw [ck_ok (by omega),Option.bind_some]
  by_cases hn:left - (xs.length:Int) < 0
  · rw [decide_eq_true hn,cond_true,szL_neg (by omega)]
  · rw [decide_eq_false hn,cond_false]
    have key:=subI (L:=m_laws_szTypeSS_L1 xs m_laws_szTypeSS_A1) (d:=xs) (s:=szTypeS) (ok:=OkTyS)
      (fun g k x left hx h0 h1=>by
        have hm:=List.mem_of_getElem? hx
        simp -implicitDefEqProofs only [m_laws_szTypeSS_L1,m_laws_szTypeSS_B1,dlt (lt_of_some hx),cond_true,getI_nat hx,Option.bind_some,(p_szTy _).1 x left (Nat.le_refl _) (ho.2 x hm) h0 h1])
      (fun g left=>by simp -implicitDefEqProofs only [m_laws_szTypeSS_L1,m_laws_szTypeSS_B1,dge,cond_false,m_laws_szTypeSS_A1])
      xs.length 0 (xs.length+1) (left - xs.length) (by omega) (by omega) (by omega) (by omega)
    refine key.trans ?_
    rw [List.drop_zero]
    congr 1
    rw [← szL_step,szL_pos hn,if_neg hn]
theorem p_szTypedNet (x:DTypedNet) (left:Int) (ho:OkTySS x.types) (h0:0≤left) (h1:left≤1048576):m_laws_szTypedNet x left=some (szL left (szTypedNet x)):=by
  unfold m_laws_szTypedNet szNetM szTypedNet
  rw [mustP_ok ⟨h0,h1⟩,Option.bind_some,Option.bind_some,← szL_step]
  show (bif decide (szL left (szNet x.net) < 0) then _ else _)=_
  by_cases hn:szL left (szNet x.net) < 0
  · rw [decide_eq_true hn,cond_true,if_pos hn]
  · have hle:szL left (szNet x.net)≤1048576:=by unfold szL; split <;> omega
    rw [decide_eq_false hn,cond_false,if_neg hn]
    show ((m_laws_szTypeSS x.types (szL left (szNet x.net))).bind _)=_
    rw [p_szTySS _ _ ho (by omega) hle,Option.bind_some]
    by_cases h2:szL (szL left (szNet x.net)) (szTypeSS x.types) < 0
    · rw [decide_eq_true h2,cond_true]
      congr 1
      generalize szL left (szNet x.net)=l at h2 ⊢
      unfold szL at h2 ⊢
      split at h2
      · rename_i h3; rw [if_pos h3]
      · rename_i h3; omega
    · rw [decide_eq_false h2,cond_false]
theorem p_eqTySS (xs ys:List (List DType)):m_laws_eqTypeSS xs ys=some (decide (xs=ys)):=by
  unfold m_laws_eqTypeSS
  rw [bne_nat]
  by_cases hl:xs.length=ys.length
  · rw [decide_eq_true hl,Bool.not_true,cond_false]
    exact rowEq (L:=m_laws_eqTypeSS_L1 xs ys m_laws_eqTypeSS_A1) (q:=fun x y=>m_laws_eqTypeS (SizeOf.sizeOf x) x y) hl (fun x hx y=>(p_eqTy _).1 x y (Nat.le_refl _))
      (fun g k hx hy=>by simp -implicitDefEqProofs only [m_laws_eqTypeSS_L1,m_laws_eqTypeSS_B1,dlt hx,cond_true,getI_nat (List.getElem?_eq_getElem hx),getI_nat (List.getElem?_eq_getElem hy),Option.bind_some])
      (fun g=>by simp -implicitDefEqProofs only [m_laws_eqTypeSS_L1,m_laws_eqTypeSS_B1,dge,cond_false,m_laws_eqTypeSS_A1])
  · rw [decide_eq_false hl,Bool.not_false,cond_true,decide_len hl]
theorem typedDec (x y:DTypedNet):decide (x=y)=(decide (x.net=y.net) && decide (x.types=y.types)):=by
  rw [Bool.eq_iff_iff]
  simp only [decide_eq_true_eq,Bool.and_eq_true]
  obtain ⟨a,b⟩:=x
  obtain ⟨c,d⟩:=y
  simp
theorem p_eqTypedNet (x y:DTypedNet):m_laws_eqTypedNet x y=some (decide (x=y)):=by
  unfold m_laws_eqTypedNet eqNetM
  rw [p_eqTySS,Option.bind_some,Option.bind_some,typedDec]
  show (bif decide (x.net=y.net) then _ else _)=_
  cases decide (x.net=y.net) <;> cases decide (x.types=y.types) <;> rfl
theorem p_toPortS (xs:List DPort) (hs:xs.length≤1048576):m_laws_toPortS xs=some xs:=by
  unfold m_laws_toPortS
  rw [mustP_ok (by omega),Option.bind_some]
  exact copyI (L:=m_laws_toPortS_L1 xs m_laws_toPortS_A1) (K:=some)
    (fun g k acc hk hg=>by simp -implicitDefEqProofs only [m_laws_toPortS_L1,m_laws_toPortS_B1,dlt hk,cond_true,getI_lt hk,Option.bind_some,hg,m_laws_toPort])
    (fun g acc=>by simp -implicitDefEqProofs only [m_laws_toPortS_L1,m_laws_toPortS_B1,dge,cond_false,m_laws_toPortS_A1])
theorem p_toInt64S (xs:List Int) (hs:xs.length≤1048576):m_laws_toInt64S xs=some xs:=by
  unfold m_laws_toInt64S
  rw [mustP_ok (by omega),Option.bind_some]
  exact copyI (L:=m_laws_toInt64S_L1 xs m_laws_toInt64S_A1) (K:=some)
    (fun g k acc hk hg=>by simp -implicitDefEqProofs only [m_laws_toInt64S_L1,m_laws_toInt64S_B1,dlt hk,cond_true,getI_lt hk,Option.bind_some,hg])
    (fun g acc=>by simp -implicitDefEqProofs only [m_laws_toInt64S_L1,m_laws_toInt64S_B1,dge,cond_false,m_laws_toInt64S_A1])
theorem p_toAgent (x:DAgent) (hs:szAgent x≤1048576):m_laws_toAgent x=some x:=by
  have e:szAgent x=x.data.length+x.ports.length:=rfl
  unfold m_laws_toAgent
  rw [p_toInt64S _ (by omega),Option.bind_some,p_toPortS _ (by omega),Option.bind_some]
theorem p_toNet (x:DNet) (hs:szNet x≤1048576):m_laws_toNet x=some x:=by
  have e:szNet x=szAgentS x.agents:=rfl
  have e2:szAgentS x.agents=x.agents.length+(x.agents.map szAgent).sum:=rfl
  unfold m_laws_toNet m_laws_toAgentS
  rw [mustP_ok (by omega),Option.bind_some]
  have key:=copyI (L:=m_laws_toAgentS_L1 x.agents m_laws_toAgentS_A1) (K:=some) (z:=(⟨0,0,0,[],[]⟩:DAgent)) (xs:=x.agents)
    (fun g k acc hk hg=>by
      have hm:=sum_mem (f:=szAgent) (List.getElem_mem hk)
      simp -implicitDefEqProofs only [m_laws_toAgentS_L1,m_laws_toAgentS_B1,dlt hk,cond_true,getI_lt hk,Option.bind_some,hg,p_toAgent x.agents[k] (by omega)])
    (fun g acc=>by simp -implicitDefEqProofs only [m_laws_toAgentS_L1,m_laws_toAgentS_B1,dge,cond_false,m_laws_toAgentS_A1])
  rw [key,Option.bind_some]
theorem p_toTypedNet (x:DTypedNet) (hs:szTypedNet x≤1048576):m_laws_toTypedNet x=some x:=by
  unfold szTypedNet szTypeSS at hs
  have key:m_laws_toTypeSS x.types=some x.types:=by
    unfold m_laws_toTypeSS
    rw [mustP_ok (by omega),Option.bind_some]
    exact copyI (L:=m_laws_toTypeSS_L1 x.types m_laws_toTypeSS_A1) (K:=some)
      (fun g k acc hk hg=>by
        have hm:=sum_mem (f:=szTypeS) (List.getElem_mem hk)
        simp -implicitDefEqProofs only [m_laws_toTypeSS_L1,m_laws_toTypeSS_B1,dlt hk,cond_true,getI_lt hk,Option.bind_some,hg,(p_toTy _).1 x.types[k] (Nat.le_refl _) (by omega)])
      (fun g acc=>by simp -implicitDefEqProofs only [m_laws_toTypeSS_L1,m_laws_toTypeSS_B1,dge,cond_false,m_laws_toTypeSS_A1])
  unfold m_laws_toTypedNet
  have h2:=p_toNet x.net (by omega)
  show ((m_laws_toNet x.net).bind _)=_
  rw [h2,Option.bind_some,key,Option.bind_some]
end
section
open Go.RowKit
set_option maxRecDepth 100000
noncomputable def m_laws_szConstructor (d0:DConstructor) (d1:Int):Option Int:=
  ((ck (d1 - (d0.name.size:Int))).bind fun s6=>(bif (decide (s6 < 0)) then some (-1) else ((m_laws_szTypeS (SizeOf.sizeOf d0.fields) d0.fields s6).bind fun y8=>(bif (decide (y8 < 0)) then some (-1) else some y8))))
set_option maxHeartbeats 2000000 in
theorem c_m_laws_szConstructor (d0:DConstructor) (d1:Int) (r:Int) (hm:m_laws_szConstructor d0 d1=some r) (v0:Value) (w:World) (hv0:St constructorRd w v0 d0) :
    Calls Tryz.prog 194 #[v0,.int .i64 d1] w fun e w'=>e=.returned (.int .i64 r)∧Below w.heap.size w w':=by
  obtain ⟨csa0,rfl,⟨A1,n1,c1,rfl,⟨h1,r1⟩⟩⟩:=hv0
  have e1:=h1.len; subst e1
  have q1:=len_le r1
  have T:=Below.refl w.heap.size w
  unfold m_laws_szConstructor at hm
  refine enter 19 Tryz.func194 rfl rfl rfl ?_
  intro f hf
  have s0:f 0=.agg #[.string d0.name,.slice A1 d0.fields.length c1]:=hf 0 _ rfl
  have s1:f 1=.int .i64 d1:=hf 1 _ rfl
  refine wp_seq<|wp_rl rfl ?_
  refine RL.box rfl s0 (fun w2 B3 hb4 szw2=>?_)
  replace B3:Blk w2 w.heap.size 263 #[.string d0.name,.slice A1 d0.fields.length c1]:=B3
  have GB3:w.heap.size≤w.heap.size:=T.size
  have T:=Tt T hb4
  refine RL.y rfl (Y.assign (v:=.int .i64 0) rfl)<|RL.nil<|then_n<|wp_seq<|wp_rs rfl<|RQ.y rfl (Y.move (v:=.int .i64 d1) s1)<|RQ.y rfl (Y.fieldAddr (off:=0) rfl (by kernel_rfl))<|RQ.y rfl (Y.load (v:=.string d0.name) rfl (by kernel_rfl) (eqC (blkCell B3 (i:=0) rfl)))<|RQ.y rfl (Y.lenS (by kernel_rfl) rfl) ?_
  obtain ⟨s6,ks6,hm⟩:=bnd hm
  replace ks6:=ck_some ks6
  refine RQ.y rfl (Y.binI (v:=.int .i64 s6) rfl rfl (by rw [binI_sub ks6.2,ks6.1]))<|RQ.y rfl (Y.assign (v:=.int .i64 s6) rfl)<|RQ.nil<|then_n<|wp_seq<|wp_seq<|wp_rs rfl<|RQ.y rfl (Y.move (v:=.int .i64 s6) rfl)<|RQ.y rfl (Y.binI (v:=.bool (decide (s6 < 0))) rfl rfl rfl)<|RQ.nil<|then_n ?_
  rcases bcases (decide (s6 < 0)) with c7|c7
  ·replace hm:=cF c7 hm
   have pc7:=of_decide_eq_false c7
   refine cond_f rfl (vb rfl c7)<|wp_skip<|then_n<|wp_seq<|wp_rb rfl<|RQ.y rfl (Y.fieldAddr (off:=1) rfl (by kernel_rfl))<|RQ.y rfl (Y.load (v:=.slice A1 d0.fields.length c1) rfl (by kernel_rfl) (beC (blkCell B3 (i:=1) rfl)))<|RQ.y rfl (Y.move (v:=.int .i64 s6) rfl) ?_
   obtain ⟨y8,e9,hm⟩:=bnd hm
   refine RQ.call rfl (am2 rfl rfl) (by kernel_rfl) (v:=.int .i64 y8) (bel (K:=fun _=>True) fun w' hb'=>(c_m_laws_szTypeS (SizeOf.sizeOf d0.fields) d0.fields s6 _ e9 _ w' (slArg typeRd_ok h1 r1 (Tt T hb'))))<|RQ.y rfl (Y.assign (v:=.int .i64 y8) rfl)<|RQ.nil ?_
   intro w10 hb11
   have szw10:=hb11.size
   have T:=Tt T hb11
   refine then_n<|wp_seq<|wp_seq<|wp_rs rfl<|RQ.y rfl (Y.move (v:=.int .i64 y8) rfl)<|RQ.y rfl (Y.binI (v:=.bool (decide (y8 < 0))) rfl rfl rfl)<|RQ.nil<|then_n ?_
   rcases bcases (decide (y8 < 0)) with c12|c12
   ·replace hm:=cF c12 hm
    have pc12:=of_decide_eq_false c12
    refine cond_f rfl (vb rfl c12)<|wp_skip<|then_n<|wp_seq<|wp_rs rfl<|RQ.y rfl (Y.move (v:=.int .i64 y8) rfl)<|RQ.y rfl (Y.assign (v:=.int .i64 y8) rfl)<|RQ.nil<|then_n<|wp_ret ?_
    obtain rfl:=sj hm
    exact (ret1 rfl rfl rfl ⟨rfl,T⟩)
   replace hm:=cT c12 hm
   have pc12:=of_decide_eq_true c12
   refine cond_t rfl (vb rfl c12)<|wp_seq<|wp_rs rfl<|RQ.y rfl (Y.assign (v:=.int .i64 (-1)) rfl)<|RQ.nil<|then_n<|wp_ret ?_
   obtain rfl:=sj hm
   exact (then_r (ret1 rfl rfl rfl ⟨rfl,T⟩))
  replace hm:=cT c7 hm
  have pc7:=of_decide_eq_true c7
  refine cond_t rfl (vb rfl c7)<|wp_seq<|wp_rs rfl<|RQ.y rfl (Y.assign (v:=.int .i64 (-1)) rfl)<|RQ.nil<|then_n<|wp_ret ?_
  obtain rfl:=sj hm
  exact (then_r (ret1 rfl rfl rfl ⟨rfl,T⟩))
noncomputable def m_laws_szConstructorS_A1 (i3:Int):Option Int:=
  some i3
noncomputable def m_laws_szConstructorS_B1 (d0:List DConstructor) (rec1:Int→Int→Option Int) (K1:Int→Option Int) (i5:Int) (i6:Int):Option Int:=
  (bif (decide (i6 < (d0.length:Int))) then ((getI d0 i6).bind fun x9=>((m_laws_szConstructor x9 i5).bind fun y19=>(bif (decide (y19 < 0)) then some (-1) else (rec1 y19 (i6+1))))) else (K1 i5))
noncomputable def m_laws_szConstructorS_L1 (d0:List DConstructor) (K1:Int→Option Int):Nat→Int→Int→Option Int
  |0,_,_=>none
  |g+1,i5,i6=>m_laws_szConstructorS_B1 d0 (m_laws_szConstructorS_L1 d0 K1 g) K1 i5 i6
noncomputable def m_laws_szConstructorS (d0:List DConstructor) (d1:Int):Option Int:=
  ((ck (d1 - (d0.length:Int))).bind fun s1=>(bif (decide (s1 < 0)) then some (-1) else (m_laws_szConstructorS_L1 d0 m_laws_szConstructorS_A1 (d0.length+1) s1 0)))
set_option maxHeartbeats 2000000 in
theorem c_m_laws_szConstructorS (d0:List DConstructor) (d1:Int) (r:Int) (hm:m_laws_szConstructorS d0 d1=some r) (v0:Value) (w:World) (hv0:Sl constructorRd 2 w v0 d0) :
    Calls Tryz.prog 136 #[v0,.int .i64 d1] w fun e w'=>e=.returned (.int .i64 r)∧Below w.heap.size w w':=by
  obtain ⟨Aa0,na0,ca0,rfl,ha0,ra0⟩:=hv0
  have ea0:=ha0.len; subst ea0
  have qa0:=len_le ra0
  have T:=Below.refl w.heap.size w
  unfold m_laws_szConstructorS at hm
  refine enter 27 Tryz.func136 rfl rfl rfl ?_
  intro f hf
  have s0:f 0=.slice Aa0 d0.length ca0:=hf 0 _ rfl
  have s1:f 1=.int .i64 d1:=hf 1 _ rfl
  refine wp_seq<|wp_rs rfl<|RQ.y rfl (Y.assign (v:=.int .i64 0) rfl)<|RQ.nil<|then_n<|wp_seq<|wp_rs rfl<|RQ.y rfl (Y.move (v:=.int .i64 d1) s1)<|RQ.y rfl (Y.move (v:=.slice Aa0 d0.length ca0) s0)<|RQ.y rfl (Y.len (by kernel_rfl) rfl) ?_
  obtain ⟨s1,ks1,hm⟩:=bnd hm
  replace ks1:=ck_some ks1
  refine RQ.y rfl (Y.binI (v:=.int .i64 s1) rfl rfl (by rw [binI_sub ks1.2,ks1.1]))<|RQ.y rfl (Y.assign (v:=.int .i64 s1) rfl)<|RQ.nil<|then_n<|wp_seq<|wp_seq<|wp_rs rfl<|RQ.y rfl (Y.move (v:=.int .i64 s1) rfl)<|RQ.y rfl (Y.binI (v:=.bool (decide (s1 < 0))) rfl rfl rfl)<|RQ.nil<|then_n ?_
  rcases bcases (decide (s1 < 0)) with c2|c2
  ·replace hm:=cF c2 hm
   have pc2:=of_decide_eq_false c2
   refine cond_f rfl (vb rfl c2)<|wp_skip<|then_n<|wp_seq<|wp_seq<|wp_rs rfl<|RQ.y rfl (Y.assign (v:=.int .i64 0) rfl)<|RQ.nil<|then_n<|wp_block ?_
   obtain ⟨K1,hK1,hm⟩ :∃K,K=m_laws_szConstructorS_A1∧m_laws_szConstructorS_L1 d0 K (d0.length+1) s1 0=some r:=⟨_,rfl,hm⟩
   refine wp_loopX (fun g f w'=>∃(i5:Int) (i6:Int),f 0=.slice Aa0 d0.length ca0∧f 1=.int .i64 i5∧f 5=.int .i64 i6∧0≤i6∧Below w.heap.size w w'∧m_laws_szConstructorS_L1 d0 K1 g i5 i6=some r) 0 (fun f w'=>∃(i3:Int),f 1=.int .i64 i3∧Below w.heap.size w w'∧m_laws_szConstructorS_A1 i3=some r) (d0.length+1) ⟨s1,0,s0,rfl,rfl,(by omega),T,hm⟩ ?_ ?_
   ·rintro f w4 ⟨i3,s1_1x,T,hm⟩
    unfold m_laws_szConstructorS_A1 at hm
    refine blk_hit (then_n ?_)
    refine wp_seq<|wp_rs rfl<|RQ.y rfl (Y.move (v:=.int .i64 i3) s1_1x)<|RQ.y rfl (Y.assign (v:=.int .i64 i3) rfl)<|RQ.nil<|then_n<|wp_ret ?_
    obtain rfl:=sj hm
    exact (ret1 rfl rfl rfl ⟨rfl,T⟩)
   rintro g f w7 ⟨i5,i6,s0_1,s1_1,s5_1,nn5_1,T,hm⟩
   rcases g with _|g
   ·simp only [m_laws_szConstructorS_L1] at hm; cases hm
   obtain ⟨rec1,hrec1,hm⟩ :∃z,z=m_laws_szConstructorS_L1 d0 K1 g∧m_laws_szConstructorS_B1 d0 z K1 i5 i6=some r:=⟨_,rfl,hm⟩
   unfold m_laws_szConstructorS_B1 at hm
   refine wp_seq<|wp_seq<|wp_rs rfl<|RQ.y rfl (Y.move (v:=.int .i64 i6) s5_1)<|RQ.y rfl (Y.move (v:=.slice Aa0 d0.length ca0) s0_1)<|RQ.y rfl (Y.len (by kernel_rfl) rfl)<|RQ.y rfl (Y.binI (v:=.bool (decide (i6 < (d0.length:Int)))) rfl rfl rfl)<|RQ.nil<|then_n ?_
   rcases bcases (decide (i6 < (d0.length:Int))) with c8|c8
   ·replace hm:=cF c8 hm
    have pc8:=of_decide_eq_false c8
    refine cond_f rfl (vb rfl c8)<|wp_exit ?_
    exact (then_x (then_x (hit_x ⟨_,rfl,⟨i5,s1_1,T,(by rw [hK1] at hm; exact hm)⟩⟩)))
   replace hm:=cT c8 hm
   have pc8:=of_decide_eq_true c8
   refine cond_t rfl (vb rfl c8)<|wp_skip<|then_n<|wp_seq<|wp_block<|wp_seq<|wp_rb rfl<|RQ.y rfl (Y.move (v:=.slice Aa0 d0.length ca0) s0_1)<|RQ.y rfl (Y.move (v:=.int .i64 i6) s5_1) ?_
   obtain ⟨x9,hx12,hm⟩:=bnd hm
   obtain ⟨k10,hk13,hl14,hx12⟩:=getI_some hx12
   obtain ⟨b16,o17,rfl,hbb16⟩:=ha0.addr (by omega)
   obtain ⟨cs11,hRcs11,hc15⟩:=ha0.el hx12
   have hScs11:=hRcs11
   obtain ⟨A18,n18,c18,rfl,⟨h18,r18⟩⟩:=hRcs11
   have e18:=h18.len; subst e18
   have q18:=len_le r18
   refine RQ.y rfl (Y.indexAddr (m:=k10) (sz:=2) rfl rfl hk13 hl14 (by kernel_rfl))<|RQ.y rfl (Y.loadN (cs:=[.string x9.name,.slice A18 x9.fields.length c18]) rfl (by kernel_rfl) (cells2 (beC (cellT T (hc15 0 _ rfl))) (beC (cellT T (hc15 1 _ rfl)))))<|RQ.y rfl (Y.move (v:=.int .i64 i5) s1_1) ?_
   obtain ⟨y19,e20,hm⟩:=bnd hm
   refine RQ.call rfl (am2 rfl rfl) (by kernel_rfl) (v:=.int .i64 y19) (bel (K:=fun _=>True) fun w' hb'=>(c_m_laws_szConstructor x9 i5 _ e20 _ w' (stArg (R:=constructorRd) ⟨_,_,_,rfl,⟨SlAt.now typeRd_ok h18 (Nat.le_refl _) (Tt T hb'),r18⟩⟩)))<|RQ.y rfl (Y.assign (v:=.int .i64 y19) rfl)<|RQ.nil ?_
   intro w21 hb22
   have szw21:=hb22.size
   have T:=Tt T hb22
   refine then_n<|wp_seq<|wp_rs rfl<|RQ.y rfl (Y.move (v:=.int .i64 y19) rfl)<|RQ.y rfl (Y.binI (v:=.bool (decide (y19 < 0))) rfl rfl rfl)<|RQ.nil<|then_n ?_
   rcases bcases (decide (y19 < 0)) with c23|c23
   ·replace hm:=cF c23 hm
    have pc23:=of_decide_eq_false c23
    refine cond_f rfl (vb rfl c23)<|wp_skip ?_
    refine blk_n (then_n ?_)
    refine wp_rs rfl<|RQ.y rfl (Y.move (v:=.int .i64 i6) s5_1)<|RQ.y rfl (Y.binI rfl rfl (binI_add (m:=i6) (by omega)))<|RQ.y rfl (Y.assign (v:=.int .i64 (i6+1)) rfl)<|RQ.nil ?_
    exact (then_n ⟨g,_,Nat.lt_succ_self _,rfl,⟨y19,(i6+1),s0_1,rfl,rfl,(by omega),T,(by rw [← hrec1]; exact hm)⟩⟩)
   replace hm:=cT c23 hm
   have pc23:=of_decide_eq_true c23
   refine cond_t rfl (vb rfl c23)<|wp_seq<|wp_rs rfl<|RQ.y rfl (Y.assign (v:=.int .i64 (-1)) rfl)<|RQ.nil<|then_n<|wp_ret ?_
   obtain rfl:=sj hm
   exact (blk_r (then_r (then_r (hit_r (blk_r (then_r (ret1 rfl rfl rfl ⟨rfl,T⟩)))))))
  replace hm:=cT c2 hm
  have pc2:=of_decide_eq_true c2
  refine cond_t rfl (vb rfl c2)<|wp_seq<|wp_rs rfl<|RQ.y rfl (Y.assign (v:=.int .i64 (-1)) rfl)<|RQ.nil<|then_n<|wp_ret ?_
  obtain rfl:=sj hm
  exact (then_r (ret1 rfl rfl rfl ⟨rfl,T⟩))
noncomputable def m_laws_szData (d0:DData) (d1:Int):Option Int:=
  ((ck (d1 - (d0.name.size:Int))).bind fun s6=>(bif (decide (s6 < 0)) then some (-1) else ((m_laws_szConstructorS d0.cons s6).bind fun y8=>(bif (decide (y8 < 0)) then some (-1) else some y8))))
set_option maxHeartbeats 2000000 in
theorem c_m_laws_szData (d0:DData) (d1:Int) (r:Int) (hm:m_laws_szData d0 d1=some r) (v0:Value) (w:World) (hv0:St dataRd w v0 d0) :
    Calls Tryz.prog 80 #[v0,.int .i64 d1] w fun e w'=>e=.returned (.int .i64 r)∧Below w.heap.size w w':=by
  obtain ⟨csa0,rfl,⟨A1,n1,c1,rfl,⟨h1,r1⟩⟩⟩:=hv0
  have e1:=h1.len; subst e1
  have q1:=len_le r1
  have T:=Below.refl w.heap.size w
  unfold m_laws_szData at hm
  refine enter 19 Tryz.func80 rfl rfl rfl ?_
  intro f hf
  have s0:f 0=.agg #[.string d0.name,.slice A1 d0.cons.length c1]:=hf 0 _ rfl
  have s1:f 1=.int .i64 d1:=hf 1 _ rfl
  refine wp_seq<|wp_rl rfl ?_
  refine RL.box rfl s0 (fun w2 B3 hb4 szw2=>?_)
  replace B3:Blk w2 w.heap.size 149 #[.string d0.name,.slice A1 d0.cons.length c1]:=B3
  have GB3:w.heap.size≤w.heap.size:=T.size
  have T:=Tt T hb4
  refine RL.y rfl (Y.assign (v:=.int .i64 0) rfl)<|RL.nil<|then_n<|wp_seq<|wp_rs rfl<|RQ.y rfl (Y.move (v:=.int .i64 d1) s1)<|RQ.y rfl (Y.fieldAddr (off:=0) rfl (by kernel_rfl))<|RQ.y rfl (Y.load (v:=.string d0.name) rfl (by kernel_rfl) (eqC (blkCell B3 (i:=0) rfl)))<|RQ.y rfl (Y.lenS (by kernel_rfl) rfl) ?_
  obtain ⟨s6,ks6,hm⟩:=bnd hm
  replace ks6:=ck_some ks6
  refine RQ.y rfl (Y.binI (v:=.int .i64 s6) rfl rfl (by rw [binI_sub ks6.2,ks6.1]))<|RQ.y rfl (Y.assign (v:=.int .i64 s6) rfl)<|RQ.nil<|then_n<|wp_seq<|wp_seq<|wp_rs rfl<|RQ.y rfl (Y.move (v:=.int .i64 s6) rfl)<|RQ.y rfl (Y.binI (v:=.bool (decide (s6 < 0))) rfl rfl rfl)<|RQ.nil<|then_n ?_
  rcases bcases (decide (s6 < 0)) with c7|c7
  ·replace hm:=cF c7 hm
   have pc7:=of_decide_eq_false c7
   refine cond_f rfl (vb rfl c7)<|wp_skip<|then_n<|wp_seq<|wp_rb rfl<|RQ.y rfl (Y.fieldAddr (off:=1) rfl (by kernel_rfl))<|RQ.y rfl (Y.load (v:=.slice A1 d0.cons.length c1) rfl (by kernel_rfl) (beC (blkCell B3 (i:=1) rfl)))<|RQ.y rfl (Y.move (v:=.int .i64 s6) rfl) ?_
   obtain ⟨y8,e9,hm⟩:=bnd hm
   refine RQ.call rfl (am2 rfl rfl) (by kernel_rfl) (v:=.int .i64 y8) (bel (K:=fun _=>True) fun w' hb'=>(c_m_laws_szConstructorS d0.cons s6 _ e9 _ w' (slArg constructorRd_ok h1 r1 (Tt T hb'))))<|RQ.y rfl (Y.assign (v:=.int .i64 y8) rfl)<|RQ.nil ?_
   intro w10 hb11
   have szw10:=hb11.size
   have T:=Tt T hb11
   refine then_n<|wp_seq<|wp_seq<|wp_rs rfl<|RQ.y rfl (Y.move (v:=.int .i64 y8) rfl)<|RQ.y rfl (Y.binI (v:=.bool (decide (y8 < 0))) rfl rfl rfl)<|RQ.nil<|then_n ?_
   rcases bcases (decide (y8 < 0)) with c12|c12
   ·replace hm:=cF c12 hm
    have pc12:=of_decide_eq_false c12
    refine cond_f rfl (vb rfl c12)<|wp_skip<|then_n<|wp_seq<|wp_rs rfl<|RQ.y rfl (Y.move (v:=.int .i64 y8) rfl)<|RQ.y rfl (Y.assign (v:=.int .i64 y8) rfl)<|RQ.nil<|then_n<|wp_ret ?_
    obtain rfl:=sj hm
    exact (ret1 rfl rfl rfl ⟨rfl,T⟩)
   replace hm:=cT c12 hm
   have pc12:=of_decide_eq_true c12
   refine cond_t rfl (vb rfl c12)<|wp_seq<|wp_rs rfl<|RQ.y rfl (Y.assign (v:=.int .i64 (-1)) rfl)<|RQ.nil<|then_n<|wp_ret ?_
   obtain rfl:=sj hm
   exact (then_r (ret1 rfl rfl rfl ⟨rfl,T⟩))
  replace hm:=cT c7 hm
  have pc7:=of_decide_eq_true c7
  refine cond_t rfl (vb rfl c7)<|wp_seq<|wp_rs rfl<|RQ.y rfl (Y.assign (v:=.int .i64 (-1)) rfl)<|RQ.nil<|then_n<|wp_ret ?_
  obtain rfl:=sj hm
  exact (then_r (ret1 rfl rfl rfl ⟨rfl,T⟩))
noncomputable def m_laws_szDataS_A1 (i3:Int):Option Int:=
  some i3
noncomputable def m_laws_szDataS_B1 (d0:List DData) (rec1:Int→Int→Option Int) (K1:Int→Option Int) (i5:Int) (i6:Int):Option Int:=
  (bif (decide (i6 < (d0.length:Int))) then ((getI d0 i6).bind fun x9=>((m_laws_szData x9 i5).bind fun y19=>(bif (decide (y19 < 0)) then some (-1) else (rec1 y19 (i6+1))))) else (K1 i5))
noncomputable def m_laws_szDataS_L1 (d0:List DData) (K1:Int→Option Int):Nat→Int→Int→Option Int
  |0,_,_=>none
  |g+1,i5,i6=>m_laws_szDataS_B1 d0 (m_laws_szDataS_L1 d0 K1 g) K1 i5 i6
noncomputable def m_laws_szDataS (d0:List DData) (d1:Int):Option Int:=
  ((ck (d1 - (d0.length:Int))).bind fun s1=>(bif (decide (s1 < 0)) then some (-1) else (m_laws_szDataS_L1 d0 m_laws_szDataS_A1 (d0.length+1) s1 0)))
set_option maxHeartbeats 2000000 in
theorem c_m_laws_szDataS (d0:List DData) (d1:Int) (r:Int) (hm:m_laws_szDataS d0 d1=some r) (v0:Value) (w:World) (hv0:Sl dataRd 2 w v0 d0) :
    Calls Tryz.prog 36 #[v0,.int .i64 d1] w fun e w'=>e=.returned (.int .i64 r)∧Below w.heap.size w w':=by
  obtain ⟨Aa0,na0,ca0,rfl,ha0,ra0⟩:=hv0
  have ea0:=ha0.len; subst ea0
  have qa0:=len_le ra0
  have T:=Below.refl w.heap.size w
  unfold m_laws_szDataS at hm
  refine enter 27 Tryz.func36 rfl rfl rfl ?_
  intro f hf
  have s0:f 0=.slice Aa0 d0.length ca0:=hf 0 _ rfl
  have s1:f 1=.int .i64 d1:=hf 1 _ rfl
  refine wp_seq<|wp_rs rfl<|RQ.y rfl (Y.assign (v:=.int .i64 0) rfl)<|RQ.nil<|then_n<|wp_seq<|wp_rs rfl<|RQ.y rfl (Y.move (v:=.int .i64 d1) s1)<|RQ.y rfl (Y.move (v:=.slice Aa0 d0.length ca0) s0)<|RQ.y rfl (Y.len (by kernel_rfl) rfl) ?_
  obtain ⟨s1,ks1,hm⟩:=bnd hm
  replace ks1:=ck_some ks1
  refine RQ.y rfl (Y.binI (v:=.int .i64 s1) rfl rfl (by rw [binI_sub ks1.2,ks1.1]))<|RQ.y rfl (Y.assign (v:=.int .i64 s1) rfl)<|RQ.nil<|then_n<|wp_seq<|wp_seq<|wp_rs rfl<|RQ.y rfl (Y.move (v:=.int .i64 s1) rfl)<|RQ.y rfl (Y.binI (v:=.bool (decide (s1 < 0))) rfl rfl rfl)<|RQ.nil<|then_n ?_
  rcases bcases (decide (s1 < 0)) with c2|c2
  ·replace hm:=cF c2 hm
   have pc2:=of_decide_eq_false c2
   refine cond_f rfl (vb rfl c2)<|wp_skip<|then_n<|wp_seq<|wp_seq<|wp_rs rfl<|RQ.y rfl (Y.assign (v:=.int .i64 0) rfl)<|RQ.nil<|then_n<|wp_block ?_
   obtain ⟨K1,hK1,hm⟩ :∃K,K=m_laws_szDataS_A1∧m_laws_szDataS_L1 d0 K (d0.length+1) s1 0=some r:=⟨_,rfl,hm⟩
   refine wp_loopX (fun g f w'=>∃(i5:Int) (i6:Int),f 0=.slice Aa0 d0.length ca0∧f 1=.int .i64 i5∧f 5=.int .i64 i6∧0≤i6∧Below w.heap.size w w'∧m_laws_szDataS_L1 d0 K1 g i5 i6=some r) 0 (fun f w'=>∃(i3:Int),f 1=.int .i64 i3∧Below w.heap.size w w'∧m_laws_szDataS_A1 i3=some r) (d0.length+1) ⟨s1,0,s0,rfl,rfl,(by omega),T,hm⟩ ?_ ?_
   ·rintro f w4 ⟨i3,s1_1x,T,hm⟩
    unfold m_laws_szDataS_A1 at hm
    refine blk_hit (then_n ?_)
    refine wp_seq<|wp_rs rfl<|RQ.y rfl (Y.move (v:=.int .i64 i3) s1_1x)<|RQ.y rfl (Y.assign (v:=.int .i64 i3) rfl)<|RQ.nil<|then_n<|wp_ret ?_
    obtain rfl:=sj hm
    exact (ret1 rfl rfl rfl ⟨rfl,T⟩)
   rintro g f w7 ⟨i5,i6,s0_1,s1_1,s5_1,nn5_1,T,hm⟩
   rcases g with _|g
   ·simp only [m_laws_szDataS_L1] at hm; cases hm
   obtain ⟨rec1,hrec1,hm⟩ :∃z,z=m_laws_szDataS_L1 d0 K1 g∧m_laws_szDataS_B1 d0 z K1 i5 i6=some r:=⟨_,rfl,hm⟩
   unfold m_laws_szDataS_B1 at hm
   refine wp_seq<|wp_seq<|wp_rs rfl<|RQ.y rfl (Y.move (v:=.int .i64 i6) s5_1)<|RQ.y rfl (Y.move (v:=.slice Aa0 d0.length ca0) s0_1)<|RQ.y rfl (Y.len (by kernel_rfl) rfl)<|RQ.y rfl (Y.binI (v:=.bool (decide (i6 < (d0.length:Int)))) rfl rfl rfl)<|RQ.nil<|then_n ?_
   rcases bcases (decide (i6 < (d0.length:Int))) with c8|c8
   ·replace hm:=cF c8 hm
    have pc8:=of_decide_eq_false c8
    refine cond_f rfl (vb rfl c8)<|wp_exit ?_
    exact (then_x (then_x (hit_x ⟨_,rfl,⟨i5,s1_1,T,(by rw [hK1] at hm; exact hm)⟩⟩)))
   replace hm:=cT c8 hm
   have pc8:=of_decide_eq_true c8
   refine cond_t rfl (vb rfl c8)<|wp_skip<|then_n<|wp_seq<|wp_block<|wp_seq<|wp_rb rfl<|RQ.y rfl (Y.move (v:=.slice Aa0 d0.length ca0) s0_1)<|RQ.y rfl (Y.move (v:=.int .i64 i6) s5_1) ?_
   obtain ⟨x9,hx12,hm⟩:=bnd hm
   obtain ⟨k10,hk13,hl14,hx12⟩:=getI_some hx12
   obtain ⟨b16,o17,rfl,hbb16⟩:=ha0.addr (by omega)
   obtain ⟨cs11,hRcs11,hc15⟩:=ha0.el hx12
   have hScs11:=hRcs11
   obtain ⟨A18,n18,c18,rfl,⟨h18,r18⟩⟩:=hRcs11
   have e18:=h18.len; subst e18
   have q18:=len_le r18
   refine RQ.y rfl (Y.indexAddr (m:=k10) (sz:=2) rfl rfl hk13 hl14 (by kernel_rfl))<|RQ.y rfl (Y.loadN (cs:=[.string x9.name,.slice A18 x9.cons.length c18]) rfl (by kernel_rfl) (cells2 (beC (cellT T (hc15 0 _ rfl))) (beC (cellT T (hc15 1 _ rfl)))))<|RQ.y rfl (Y.move (v:=.int .i64 i5) s1_1) ?_
   obtain ⟨y19,e20,hm⟩:=bnd hm
   refine RQ.call rfl (am2 rfl rfl) (by kernel_rfl) (v:=.int .i64 y19) (bel (K:=fun _=>True) fun w' hb'=>(c_m_laws_szData x9 i5 _ e20 _ w' (stArg (R:=dataRd) ⟨_,_,_,rfl,⟨SlAt.now constructorRd_ok h18 (Nat.le_refl _) (Tt T hb'),r18⟩⟩)))<|RQ.y rfl (Y.assign (v:=.int .i64 y19) rfl)<|RQ.nil ?_
   intro w21 hb22
   have szw21:=hb22.size
   have T:=Tt T hb22
   refine then_n<|wp_seq<|wp_rs rfl<|RQ.y rfl (Y.move (v:=.int .i64 y19) rfl)<|RQ.y rfl (Y.binI (v:=.bool (decide (y19 < 0))) rfl rfl rfl)<|RQ.nil<|then_n ?_
   rcases bcases (decide (y19 < 0)) with c23|c23
   ·replace hm:=cF c23 hm
    have pc23:=of_decide_eq_false c23
    refine cond_f rfl (vb rfl c23)<|wp_skip ?_
    refine blk_n (then_n ?_)
    refine wp_rs rfl<|RQ.y rfl (Y.move (v:=.int .i64 i6) s5_1)<|RQ.y rfl (Y.binI rfl rfl (binI_add (m:=i6) (by omega)))<|RQ.y rfl (Y.assign (v:=.int .i64 (i6+1)) rfl)<|RQ.nil ?_
    exact (then_n ⟨g,_,Nat.lt_succ_self _,rfl,⟨y19,(i6+1),s0_1,rfl,rfl,(by omega),T,(by rw [← hrec1]; exact hm)⟩⟩)
   replace hm:=cT c23 hm
   have pc23:=of_decide_eq_true c23
   refine cond_t rfl (vb rfl c23)<|wp_seq<|wp_rs rfl<|RQ.y rfl (Y.assign (v:=.int .i64 (-1)) rfl)<|RQ.nil<|then_n<|wp_ret ?_
   obtain rfl:=sj hm
   exact (blk_r (then_r (then_r (hit_r (blk_r (then_r (ret1 rfl rfl rfl ⟨rfl,T⟩)))))))
  replace hm:=cT c2 hm
  have pc2:=of_decide_eq_true c2
  refine cond_t rfl (vb rfl c2)<|wp_seq<|wp_rs rfl<|RQ.y rfl (Y.assign (v:=.int .i64 (-1)) rfl)<|RQ.nil<|then_n<|wp_ret ?_
  obtain rfl:=sj hm
  exact (then_r (ret1 rfl rfl rfl ⟨rfl,T⟩))
noncomputable def m_laws_szSignature (d0:DSignature) (d1:Int):Option Int:=
  ((m_laws_szDataS d0.datas d1).bind fun y7=>(bif (decide (y7 < 0)) then some (-1) else ((m_laws_szTypeS (SizeOf.sizeOf d0.defs) d0.defs y7).bind fun y12=>(bif (decide (y12 < 0)) then some (-1) else some y12))))
set_option maxHeartbeats 2000000 in
theorem c_m_laws_szSignature (d0:DSignature) (d1:Int) (r:Int) (hm:m_laws_szSignature d0 d1=some r) (v0:Value) (w:World) (hv0:St signatureRd w v0 d0) :
    Calls Tryz.prog 7 #[v0,.int .i64 d1] w fun e w'=>e=.returned (.int .i64 r)∧Below w.heap.size w w':=by
  obtain ⟨csa0,rfl,⟨A1,n1,c1,A2,n2,c2,rfl,⟨h1,r1⟩,⟨h2,r2⟩⟩⟩:=hv0
  have e1:=h1.len; subst e1
  have q1:=len_le r1
  have e2:=h2.len; subst e2
  have q2:=len_le r2
  have T:=Below.refl w.heap.size w
  unfold m_laws_szSignature at hm
  refine enter 18 Tryz.func7 rfl rfl rfl ?_
  intro f hf
  have s0:f 0=.agg #[.slice A1 d0.datas.length c1,.slice A2 d0.defs.length c2]:=hf 0 _ rfl
  have s1:f 1=.int .i64 d1:=hf 1 _ rfl
  refine wp_seq<|wp_rl rfl ?_
  refine RL.box rfl s0 (fun w3 B4 hb5 szw3=>?_)
  replace B4:Blk w3 w.heap.size 25 #[.slice A1 d0.datas.length c1,.slice A2 d0.defs.length c2]:=B4
  have GB4:w.heap.size≤w.heap.size:=T.size
  have T:=Tt T hb5
  refine RL.y rfl (Y.assign (v:=.int .i64 0) rfl)<|RL.nil<|then_n<|wp_seq<|wp_rb rfl<|RQ.y rfl (Y.fieldAddr (off:=0) rfl (by kernel_rfl))<|RQ.y rfl (Y.load (v:=.slice A1 d0.datas.length c1) rfl (by kernel_rfl) (beC (blkCell B4 (i:=0) rfl)))<|RQ.y rfl (Y.move (v:=.int .i64 d1) s1) ?_
  obtain ⟨y7,e8,hm⟩:=bnd hm
  refine RQ.call rfl (am2 rfl rfl) (by kernel_rfl) (v:=.int .i64 y7) (bel (K:=fun _=>True) fun w' hb'=>(c_m_laws_szDataS d0.datas d1 _ e8 _ w' (slArg dataRd_ok h1 r1 (Tt T hb'))))<|RQ.y rfl (Y.assign (v:=.int .i64 y7) rfl)<|RQ.nil ?_
  intro w9 hb10
  have szw9:=hb10.size
  have B4:=blkT B4 hb10
  have T:=Tt T hb10
  refine then_n<|wp_seq<|wp_seq<|wp_rs rfl<|RQ.y rfl (Y.move (v:=.int .i64 y7) rfl)<|RQ.y rfl (Y.binI (v:=.bool (decide (y7 < 0))) rfl rfl rfl)<|RQ.nil<|then_n ?_
  rcases bcases (decide (y7 < 0)) with c11|c11
  ·replace hm:=cF c11 hm
   have pc11:=of_decide_eq_false c11
   refine cond_f rfl (vb rfl c11)<|wp_skip<|then_n<|wp_seq<|wp_rb rfl<|RQ.y rfl (Y.fieldAddr (off:=1) rfl (by kernel_rfl))<|RQ.y rfl (Y.load (v:=.slice A2 d0.defs.length c2) rfl (by kernel_rfl) (beC (blkCell B4 (i:=1) rfl)))<|RQ.y rfl (Y.move (v:=.int .i64 y7) rfl) ?_
   obtain ⟨y12,e13,hm⟩:=bnd hm
   refine RQ.call rfl (am2 rfl rfl) (by kernel_rfl) (v:=.int .i64 y12) (bel (K:=fun _=>True) fun w' hb'=>(c_m_laws_szTypeS (SizeOf.sizeOf d0.defs) d0.defs y7 _ e13 _ w' (slArg typeRd_ok h2 r2 (Tt T hb'))))<|RQ.y rfl (Y.assign (v:=.int .i64 y12) rfl)<|RQ.nil ?_
   intro w14 hb15
   have szw14:=hb15.size
   have T:=Tt T hb15
   refine then_n<|wp_seq<|wp_seq<|wp_rs rfl<|RQ.y rfl (Y.move (v:=.int .i64 y12) rfl)<|RQ.y rfl (Y.binI (v:=.bool (decide (y12 < 0))) rfl rfl rfl)<|RQ.nil<|then_n ?_
   rcases bcases (decide (y12 < 0)) with c16|c16
   ·replace hm:=cF c16 hm
    have pc16:=of_decide_eq_false c16
    refine cond_f rfl (vb rfl c16)<|wp_skip<|then_n<|wp_seq<|wp_rs rfl<|RQ.y rfl (Y.move (v:=.int .i64 y12) rfl)<|RQ.y rfl (Y.assign (v:=.int .i64 y12) rfl)<|RQ.nil<|then_n<|wp_ret ?_
    obtain rfl:=sj hm
    exact (ret1 rfl rfl rfl ⟨rfl,T⟩)
   replace hm:=cT c16 hm
   have pc16:=of_decide_eq_true c16
   refine cond_t rfl (vb rfl c16)<|wp_seq<|wp_rs rfl<|RQ.y rfl (Y.assign (v:=.int .i64 (-1)) rfl)<|RQ.nil<|then_n<|wp_ret ?_
   obtain rfl:=sj hm
   exact (then_r (ret1 rfl rfl rfl ⟨rfl,T⟩))
  replace hm:=cT c11 hm
  have pc11:=of_decide_eq_true c11
  refine cond_t rfl (vb rfl c11)<|wp_seq<|wp_rs rfl<|RQ.y rfl (Y.assign (v:=.int .i64 (-1)) rfl)<|RQ.nil<|then_n<|wp_ret ?_
  obtain rfl:=sj hm
  exact (then_r (ret1 rfl rfl rfl ⟨rfl,T⟩))
noncomputable def m_laws_toConstructor (d0:DConstructor):Option DConstructor:=
  ((m_laws_toTypeS (SizeOf.sizeOf d0.fields) d0.fields).bind fun y17=>some (⟨d0.name,y17⟩:DConstructor))
set_option maxHeartbeats 2000000 in
theorem c_m_laws_toConstructor (d0:DConstructor) (r:DConstructor) (hm:m_laws_toConstructor d0=some r) (v0:Value) (w:World) (hv0:St constructorRd w v0 d0) :
    Calls Tryz.prog 200 #[v0] w fun e w'=>(∃(v0:Value) (bs0:List Nat),e=.returned (.agg #[.string r.name,v0])∧OwN 114 typeOw 3 w' w.heap.size v0 r.fields bs0)∧Below w.heap.size w w':=by
  obtain ⟨csa0,rfl,⟨A1,n1,c1,rfl,⟨h1,r1⟩⟩⟩:=hv0
  have e1:=h1.len; subst e1
  have q1:=len_le r1
  have T:=Below.refl w.heap.size w
  unfold m_laws_toConstructor at hm
  refine enter 12 Tryz.func200 rfl rfl rfl ?_
  intro f hf
  have s0:f 0=.agg #[.string d0.name,.slice A1 d0.fields.length c1]:=hf 0 _ rfl
  refine wp_seq<|wp_rl rfl ?_
  refine RL.box rfl s0 (fun w2 B3 hb4 szw2=>?_)
  replace B3:Blk w2 w.heap.size 263 #[.string d0.name,.slice A1 d0.fields.length c1]:=B3
  have GB3:w.heap.size≤w.heap.size:=T.size
  have T:=Tt T hb4
  refine RL.alloc (z:=.agg #[.string ByteArray.empty,.slice none 0 0]) rfl (by kernel_rfl) (fun w6 B7 hb8 szw6=>?_)
  replace B7:Blk w6 w2.heap.size 173 #[.string ByteArray.empty,.slice none 0 0]:=B7
  have GB7:w.heap.size≤w2.heap.size:=T.size
  have Eob9_ob5:=Nat.ne_of_lt B3.lt
  have B3:=blkT B3 hb8
  have T:=Tt T hb8
  refine RL.nil<|then_n<|wp_seq<|wp_rl rfl ?_
  refine RL.alloc (z:=.agg #[.string ByteArray.empty,.slice none 0 0]) rfl (by kernel_rfl) (fun w10 B11 hb12 szw10=>?_)
  replace B11:Blk w10 w6.heap.size 173 #[.string ByteArray.empty,.slice none 0 0]:=B11
  have GB11:w.heap.size≤w6.heap.size:=T.size
  have Eob13_ob5:=Nat.ne_of_lt B3.lt
  have Eob13_ob9:=Nat.ne_of_lt B7.lt
  have B3:=blkT B3 hb12
  have B7:=blkT B7 hb12
  have T:=Tt T hb12
  refine RL.nil<|then_n<|wp_seq<|wp_rl rfl<|RL.y rfl (Y.fieldAddr (off:=0) rfl (by kernel_rfl))<|RL.y rfl (Y.load (v:=.string d0.name) rfl (by kernel_rfl) (eqC (blkCell B3 (i:=0) rfl)))<|RL.y rfl (Y.fieldAddr (off:=0) rfl (by kernel_rfl)) ?_
  refine RL.store (v:=.string d0.name) (cs':=#[.string d0.name,.slice none 0 0]) rfl rfl rfl B11 (by kernel_rfl) (by rfl) (by rfl) (by rfl) (fun w14 B15 ho16=>?_)
  have szw14:=ho16.size
  have B3:=B3.only_ ho16 (by intro hin; simp at hin; exact Eob13_ob5 hin)
  have B7:=B7.only_ ho16 (by intro hin; simp at hin; exact Eob13_ob9 hin)
  have T:=T.trans (ho16.below (by first|(simp; done)|(simp; omega)))
  refine RL.nil<|then_n<|wp_seq<|wp_rl rfl<|RL.y rfl (Y.fieldAddr (off:=1) rfl (by kernel_rfl))<|RL.y rfl (Y.load (v:=.slice A1 d0.fields.length c1) rfl (by kernel_rfl) (eqC (blkCell B3 (i:=1) rfl))) ?_
  obtain ⟨y17,e18,hm⟩:=bnd hm
  refine RL.call rfl (am1 rfl) (by kernel_rfl) ((c_m_laws_toTypeS (SizeOf.sizeOf d0.fields) d0.fields _ e18 _ _ (slArg typeRd_ok h1 r1 T)).mono ?_)
  rintro _ w23 ⟨⟨v19,bs22,rfl,G20⟩,hb24⟩
  refine ⟨_,rfl,?_⟩
  have szw23:=hb24.size
  have T0w23:=T.size
  have Zo21_ob5:Ap bs22 [w.heap.size]:=(Ap.new (OwN.lo_ G20) (one_hi B3.lt))
  have Zo21_ob9:Ap bs22 [w2.heap.size]:=(Ap.new (OwN.lo_ G20) (one_hi B7.lt))
  have Zo21_ob13:Ap bs22 [w6.heap.size]:=(Ap.new (OwN.lo_ G20) (one_hi B15.lt))
  have B3:=blkT B3 hb24
  have B7:=blkT B7 hb24
  have B15:=blkT B15 hb24
  have T:=Tt T hb24
  replace G20:=OwN.mono G20 T0w23
  refine RL.y rfl (Y.fieldAddr (off:=1) rfl (by kernel_rfl)) ?_
  obtain ⟨A25,c26,rfl⟩:=OwN.form G20
  have qbA25:=OwN.bound G20
  refine RL.store (v:=.slice A25 y17.length c26) (cs':=#[.string d0.name,.slice A25 y17.length c26]) rfl rfl rfl B15 (by kernel_rfl) (by rfl) (by rfl) (by rfl) (fun w27 B28 ho29=>?_)
  have szw27:=ho29.size
  have B3:=B3.only_ ho29 (by intro hin; simp at hin; exact Eob13_ob5 hin)
  have B7:=B7.only_ ho29 (by intro hin; simp at hin; exact Eob13_ob9 hin)
  have G20:=OwN.only typeOw_ok G20 ho29 (Ap.one Zo21_ob13)
  have T:=T.trans (ho29.below (by first|(simp; done)|(simp; omega)))
  refine RL.nil<|then_n<|wp_seq<|wp_rl rfl<|RL.y rfl (Y.loadN (cs:=[.string d0.name,.slice A25 y17.length c26]) rfl (by kernel_rfl) (cells2 (eqC (blkCell B28 (i:=0) rfl)) (eqC (blkCell B28 (i:=1) rfl)))) ?_
  refine RL.store (v:=.agg #[.string d0.name,.slice A25 y17.length c26]) (cs':=#[.string d0.name,.slice A25 y17.length c26]) rfl rfl rfl B7 (by kernel_rfl) (by rfl) (by rfl) (by rfl) (fun w30 B31 ho32=>?_)
  have szw30:=ho32.size
  have B28:=B28.only_ ho32 (by intro hin; simp at hin; exact Eob13_ob9.symm hin)
  have G20:=OwN.only typeOw_ok G20 ho32 (Ap.one Zo21_ob9)
  have T:=T.trans (ho32.below (by first|(simp; done)|(simp; omega)))
  refine RL.nil<|then_n<|wp_ret ?_
  obtain rfl:=sj hm
  exact (retc (cs:=[.string d0.name,.slice A25 y17.length c26]) rfl rfl rfl (by kernel_rfl) (blkCells B31) ⟨⟨_,_,rfl,G20⟩,T⟩)
noncomputable def m_laws_toConstructorS_A1 (xs8:List DConstructor):Option (List DConstructor):=
  some xs8
noncomputable def m_laws_toConstructorS_B1 (d0:List DConstructor) (rec1:List DConstructor→Int→Option (List DConstructor)) (K1:List DConstructor→Option (List DConstructor)) (xs10:List DConstructor) (i11:Int):Option (List DConstructor):=
  (bif (decide (i11 < (d0.length:Int))) then ((getI d0 i11).bind fun x14=>((m_laws_toConstructor x14).bind fun y24=>((getI xs10 i11).bind fun x34=>(rec1 (setI xs10 i11 y24) (i11+1))))) else (K1 xs10))
noncomputable def m_laws_toConstructorS_L1 (d0:List DConstructor) (K1:List DConstructor→Option (List DConstructor)):Nat→List DConstructor→Int→Option (List DConstructor)
  |0,_,_=>none
  |g+1,xs10,i11=>m_laws_toConstructorS_B1 d0 (m_laws_toConstructorS_L1 d0 K1 g) K1 xs10 i11
noncomputable def m_laws_toConstructorS (d0:List DConstructor):Option (List DConstructor):=
  ((mustP (d0.length≤4294967296)).bind fun _=>(m_laws_toConstructorS_L1 d0 m_laws_toConstructorS_A1 (d0.length+1) (List.replicate d0.length ((⟨ByteArray.empty,[]⟩:DConstructor):DConstructor)) 0))
set_option maxHeartbeats 2000000 in
theorem c_m_laws_toConstructorS (d0:List DConstructor) (r:List DConstructor) (hm:m_laws_toConstructorS d0=some r) (v0:Value) (w:World) (hv0:Sl constructorRd 2 w v0 d0) :
    Calls Tryz.prog 145 #[v0] w fun e w'=>(∃(v0:Value) (bs0:List Nat),e=.returned (v0)∧OwN 173 constructorOw 2 w' w.heap.size v0 r bs0)∧Below w.heap.size w w':=by
  obtain ⟨Aa0,na0,ca0,rfl,ha0,ra0⟩:=hv0
  have ea0:=ha0.len; subst ea0
  have qa0:=len_le ra0
  have T:=Below.refl w.heap.size w
  unfold m_laws_toConstructorS at hm
  refine enter 23 Tryz.func145 rfl rfl rfl ?_
  intro f hf
  have s0:f 0=.slice Aa0 d0.length ca0:=hf 0 _ rfl
  refine wp_seq<|wp_rs rfl<|RQ.y rfl (Y.assign (v:=.slice none 0 0) rfl)<|RQ.nil<|then_n<|wp_seq<|wp_rl rfl<|RL.y rfl (Y.move (v:=.slice Aa0 d0.length ca0) s0)<|RL.y rfl (Y.len (by kernel_rfl) rfl) ?_
  obtain ⟨_,m1,hm⟩:=bnd hm
  have hk2:=mustP_some m1
  refine RL.makeN (O:=constructorOw) (x0:=(⟨ByteArray.empty,[]⟩:DConstructor)) (n:=d0.length) app_impl_Constructor (by decide) (fun w=>⟨none,0,0,[],rfl,⟨⟨rfl,.inl ⟨rfl,rfl⟩⟩,Nat.le_refl _,Nat.zero_le _⟩,rfl⟩) rfl rfl rfl hk2 (fun w3 G4 hb5 szw3=>?_)
  replace G4:=OwN.mono G4 T.size
  have T:=Tt T hb5
  refine RL.y rfl (Y.assign (v:=.slice (some ⟨w.heap.size,0,none⟩) d0.length d0.length) rfl)<|RL.nil<|then_n<|wp_seq<|wp_seq<|wp_rs rfl<|RQ.y rfl (Y.assign (v:=.int .i64 0) rfl)<|RQ.nil<|then_n<|wp_block ?_
  obtain ⟨K1,hK1,hm⟩ :∃K,K=m_laws_toConstructorS_A1∧m_laws_toConstructorS_L1 d0 K (d0.length+1) (List.replicate d0.length ((⟨ByteArray.empty,[]⟩:DConstructor):DConstructor)) 0=some r:=⟨_,rfl,hm⟩
  refine wp_loopX (fun g f w'=>∃(xs10:List DConstructor) (i11:Int) (uxs10:Value) (bsxs10:List Nat),f 0=.slice Aa0 d0.length ca0∧f 3=uxs10∧OwN 173 constructorOw 2 w' w.heap.size uxs10 xs10 bsxs10∧f 4=.int .i64 i11∧0≤i11∧Below w.heap.size w w'∧m_laws_toConstructorS_L1 d0 K1 g xs10 i11=some r) 0 (fun f w'=>∃(xs8:List DConstructor) (uxs8:Value) (bsxs8:List Nat),f 3=uxs8∧OwN 173 constructorOw 2 w' w.heap.size uxs8 xs8 bsxs8∧Below w.heap.size w w'∧m_laws_toConstructorS_A1 xs8=some r) (d0.length+1) ⟨(List.replicate d0.length ((⟨ByteArray.empty,[]⟩:DConstructor):DConstructor)),0,(.slice (some ⟨w.heap.size,0,none⟩) d0.length d0.length),([w.heap.size]),s0,rfl,G4,rfl,(by omega),T,hm⟩ ?_ ?_
  ·rintro f w9 ⟨xs8,uxs8,bsxs8,s3_1x,Guxs8,T,hm⟩
   unfold m_laws_toConstructorS_A1 at hm
   refine blk_hit (then_n ?_)
   refine wp_seq<|wp_rs rfl<|RQ.y rfl (Y.move (v:=uxs8) s3_1x)<|RQ.y rfl (Y.assign (v:=uxs8) rfl)<|RQ.nil<|then_n<|wp_ret ?_
   obtain rfl:=sj hm
   exact (ret1 rfl rfl rfl ⟨⟨_,_,rfl,Guxs8⟩,T⟩)
  rintro g f w12 ⟨xs10,i11,uxs10,bsxs10,s0_1,s3_1,Guxs10,s4_1,nn4_1,T,hm⟩
  rcases g with _|g
  ·simp only [m_laws_toConstructorS_L1] at hm; cases hm
  obtain ⟨rec1,hrec1,hm⟩ :∃z,z=m_laws_toConstructorS_L1 d0 K1 g∧m_laws_toConstructorS_B1 d0 z K1 xs10 i11=some r:=⟨_,rfl,hm⟩
  unfold m_laws_toConstructorS_B1 at hm
  refine wp_seq<|wp_seq<|wp_rs rfl<|RQ.y rfl (Y.move (v:=.int .i64 i11) s4_1)<|RQ.y rfl (Y.move (v:=.slice Aa0 d0.length ca0) s0_1)<|RQ.y rfl (Y.len (by kernel_rfl) rfl)<|RQ.y rfl (Y.binI (v:=.bool (decide (i11 < (d0.length:Int)))) rfl rfl rfl)<|RQ.nil<|then_n ?_
  rcases bcases (decide (i11 < (d0.length:Int))) with c13|c13
  ·replace hm:=cF c13 hm
   have pc13:=of_decide_eq_false c13
   refine cond_f rfl (vb rfl c13)<|wp_exit ?_
   exact (then_x (then_x (hit_x ⟨_,rfl,⟨xs10,(uxs10),bsxs10,s3_1,Guxs10,T,(by rw [hK1] at hm; exact hm)⟩⟩)))
  replace hm:=cT c13 hm
  have pc13:=of_decide_eq_true c13
  refine cond_t rfl (vb rfl c13)<|wp_skip<|then_n<|wp_seq<|wp_block<|wp_rl rfl<|RL.y rfl (Y.move (v:=uxs10) s3_1)<|RL.y rfl (Y.move (v:=.int .i64 i11) s4_1)<|RL.y rfl (Y.move (v:=.slice Aa0 d0.length ca0) s0_1)<|RL.y rfl (Y.move (v:=.int .i64 i11) s4_1) ?_
  obtain ⟨x14,hx17,hm⟩:=bnd hm
  obtain ⟨k15,hk18,hl19,hx17⟩:=getI_some hx17
  obtain ⟨b21,o22,rfl,hbb21⟩:=ha0.addr (by omega)
  obtain ⟨cs16,hRcs16,hc20⟩:=ha0.el hx17
  have hScs16:=hRcs16
  obtain ⟨A23,n23,c23,rfl,⟨h23,r23⟩⟩:=hRcs16
  have e23:=h23.len; subst e23
  have q23:=len_le r23
  refine RL.y rfl (Y.indexAddr (m:=k15) (sz:=2) rfl rfl hk18 hl19 (by kernel_rfl))<|RL.y rfl (Y.loadN (cs:=[.string x14.name,.slice A23 x14.fields.length c23]) rfl (by kernel_rfl) (cells2 (eqC (cellT T (hc20 0 _ rfl))) (eqC (cellT T (hc20 1 _ rfl))))) ?_
  obtain ⟨y24,e25,hm⟩:=bnd hm
  refine RL.call rfl (am1 rfl) (by kernel_rfl) ((c_m_laws_toConstructor x14 _ e25 _ _ (stArg (R:=constructorRd) ⟨_,_,_,rfl,⟨SlAt.now typeRd_ok h23 (Nat.le_refl _) T,r23⟩⟩)).mono ?_)
  rintro _ w30 ⟨⟨v26,bs29,rfl,G27⟩,hb31⟩
  refine ⟨_,rfl,?_⟩
  have szw30:=hb31.size
  have T0w30:=T.size
  have Zo28_oxs10:Ap bs29 bsxs10:=(Ap.new (OwN.lo_ G27) (OwN.hi Guxs10))
  have Guxs10:=OwN.below constructorOw_ok Guxs10 hb31
  have T:=Tt T hb31
  replace G27:=OwN.mono G27 T0w30
  obtain ⟨A32,c33,rfl⟩:=OwN.form Guxs10
  have qbA32:=OwN.bound Guxs10
  obtain ⟨x34,hx36,hm⟩:=bnd hm
  obtain ⟨k35,hk37,hl38,hx36⟩:=getI_some hx36
  obtain ⟨b39,rfl⟩:=OwN.addr0 Guxs10 (by omega)
  refine RL.y rfl (Y.indexAddr (m:=k35) (sz:=2) rfl rfl hk37 hl38 (by kernel_rfl)) ?_
  obtain ⟨A40,c41,rfl⟩:=OwN.form G27
  have qbA40:=OwN.bound G27
  obtain ⟨_,_,_,l43,hea42,a42,nd44,sb45,r46⟩:=OwN.own1 typeOw_ok G27
  injection hea42 with e1 e2 e3; subst e1 e2 e3
  refine RL.storeNW (k:=k35) (a':=y24) (l:=l43) (fp:=bs29) constructorOw_ok constructorOw_one rfl rfl rfl Guxs10 hx36 ⟨_,_,_,l43,rfl,⟨a42,r46⟩,rfl⟩ nd44 sb45 (Ap.symm Zo28_oxs10) (OwN.both G27 (Nat.le_refl _)) (by kernel_rfl) (fun w47 G48 ho49=>?_)
  have szw47:=ho49.size
  have T:=T.trans (ho49.below (by intro b hb; simp at hb; subst hb; exact OwN.lo_ Guxs10 _ (OwN.row Guxs10 rfl)))
  have G48:OwN 173 constructorOw 2 w47 w.heap.size (.slice (some ⟨b39,0,none⟩) xs10.length c33) (setI xs10 i11 y24) (bsxs10 ++ bs29):=by rw [setI_eq hk37]; exact G48
  refine RL.nil ?_
  refine blk_n (then_n ?_)
  refine wp_rs rfl<|RQ.y rfl (Y.move (v:=.int .i64 i11) s4_1)<|RQ.y rfl (Y.binI rfl rfl (binI_add (m:=i11) (by omega)))<|RQ.y rfl (Y.assign (v:=.int .i64 (i11+1)) rfl)<|RQ.nil ?_
  exact (then_n ⟨g,_,Nat.lt_succ_self _,rfl,⟨(setI xs10 i11 y24),(i11+1),(.slice (some ⟨b39,0,none⟩) xs10.length c33),(bsxs10 ++ bs29),s0_1,s3_1,G48,rfl,(by omega),T,(by rw [← hrec1]; exact hm)⟩⟩)
noncomputable def m_laws_toData (d0:DData):Option DData:=
  ((m_laws_toConstructorS d0.cons).bind fun y17=>some (⟨d0.name,y17⟩:DData))
set_option maxHeartbeats 2000000 in
theorem c_m_laws_toData (d0:DData) (r:DData) (hm:m_laws_toData d0=some r) (v0:Value) (w:World) (hv0:St dataRd w v0 d0) :
    Calls Tryz.prog 88 #[v0] w fun e w'=>(∃(v0:Value) (bs0:List Nat),e=.returned (.agg #[.string r.name,v0])∧OwN 173 constructorOw 2 w' w.heap.size v0 r.cons bs0)∧Below w.heap.size w w':=by
  obtain ⟨csa0,rfl,⟨A1,n1,c1,rfl,⟨h1,r1⟩⟩⟩:=hv0
  have e1:=h1.len; subst e1
  have q1:=len_le r1
  have T:=Below.refl w.heap.size w
  unfold m_laws_toData at hm
  refine enter 12 Tryz.func88 rfl rfl rfl ?_
  intro f hf
  have s0:f 0=.agg #[.string d0.name,.slice A1 d0.cons.length c1]:=hf 0 _ rfl
  refine wp_seq<|wp_rl rfl ?_
  refine RL.box rfl s0 (fun w2 B3 hb4 szw2=>?_)
  replace B3:Blk w2 w.heap.size 149 #[.string d0.name,.slice A1 d0.cons.length c1]:=B3
  have GB3:w.heap.size≤w.heap.size:=T.size
  have T:=Tt T hb4
  refine RL.alloc (z:=.agg #[.string ByteArray.empty,.slice none 0 0]) rfl (by kernel_rfl) (fun w6 B7 hb8 szw6=>?_)
  replace B7:Blk w6 w2.heap.size 167 #[.string ByteArray.empty,.slice none 0 0]:=B7
  have GB7:w.heap.size≤w2.heap.size:=T.size
  have Eob9_ob5:=Nat.ne_of_lt B3.lt
  have B3:=blkT B3 hb8
  have T:=Tt T hb8
  refine RL.nil<|then_n<|wp_seq<|wp_rl rfl ?_
  refine RL.alloc (z:=.agg #[.string ByteArray.empty,.slice none 0 0]) rfl (by kernel_rfl) (fun w10 B11 hb12 szw10=>?_)
  replace B11:Blk w10 w6.heap.size 167 #[.string ByteArray.empty,.slice none 0 0]:=B11
  have GB11:w.heap.size≤w6.heap.size:=T.size
  have Eob13_ob5:=Nat.ne_of_lt B3.lt
  have Eob13_ob9:=Nat.ne_of_lt B7.lt
  have B3:=blkT B3 hb12
  have B7:=blkT B7 hb12
  have T:=Tt T hb12
  refine RL.nil<|then_n<|wp_seq<|wp_rl rfl<|RL.y rfl (Y.fieldAddr (off:=0) rfl (by kernel_rfl))<|RL.y rfl (Y.load (v:=.string d0.name) rfl (by kernel_rfl) (eqC (blkCell B3 (i:=0) rfl)))<|RL.y rfl (Y.fieldAddr (off:=0) rfl (by kernel_rfl)) ?_
  refine RL.store (v:=.string d0.name) (cs':=#[.string d0.name,.slice none 0 0]) rfl rfl rfl B11 (by kernel_rfl) (by rfl) (by rfl) (by rfl) (fun w14 B15 ho16=>?_)
  have szw14:=ho16.size
  have B3:=B3.only_ ho16 (by intro hin; simp at hin; exact Eob13_ob5 hin)
  have B7:=B7.only_ ho16 (by intro hin; simp at hin; exact Eob13_ob9 hin)
  have T:=T.trans (ho16.below (by first|(simp; done)|(simp; omega)))
  refine RL.nil<|then_n<|wp_seq<|wp_rl rfl<|RL.y rfl (Y.fieldAddr (off:=1) rfl (by kernel_rfl))<|RL.y rfl (Y.load (v:=.slice A1 d0.cons.length c1) rfl (by kernel_rfl) (eqC (blkCell B3 (i:=1) rfl))) ?_
  obtain ⟨y17,e18,hm⟩:=bnd hm
  refine RL.call rfl (am1 rfl) (by kernel_rfl) ((c_m_laws_toConstructorS d0.cons _ e18 _ _ (slArg constructorRd_ok h1 r1 T)).mono ?_)
  rintro _ w23 ⟨⟨v19,bs22,rfl,G20⟩,hb24⟩
  refine ⟨_,rfl,?_⟩
  have szw23:=hb24.size
  have T0w23:=T.size
  have Zo21_ob5:Ap bs22 [w.heap.size]:=(Ap.new (OwN.lo_ G20) (one_hi B3.lt))
  have Zo21_ob9:Ap bs22 [w2.heap.size]:=(Ap.new (OwN.lo_ G20) (one_hi B7.lt))
  have Zo21_ob13:Ap bs22 [w6.heap.size]:=(Ap.new (OwN.lo_ G20) (one_hi B15.lt))
  have B3:=blkT B3 hb24
  have B7:=blkT B7 hb24
  have B15:=blkT B15 hb24
  have T:=Tt T hb24
  replace G20:=OwN.mono G20 T0w23
  refine RL.y rfl (Y.fieldAddr (off:=1) rfl (by kernel_rfl)) ?_
  obtain ⟨A25,c26,rfl⟩:=OwN.form G20
  have qbA25:=OwN.bound G20
  refine RL.store (v:=.slice A25 y17.length c26) (cs':=#[.string d0.name,.slice A25 y17.length c26]) rfl rfl rfl B15 (by kernel_rfl) (by rfl) (by rfl) (by rfl) (fun w27 B28 ho29=>?_)
  have szw27:=ho29.size
  have B3:=B3.only_ ho29 (by intro hin; simp at hin; exact Eob13_ob5 hin)
  have B7:=B7.only_ ho29 (by intro hin; simp at hin; exact Eob13_ob9 hin)
  have G20:=OwN.only constructorOw_ok G20 ho29 (Ap.one Zo21_ob13)
  have T:=T.trans (ho29.below (by first|(simp; done)|(simp; omega)))
  refine RL.nil<|then_n<|wp_seq<|wp_rl rfl<|RL.y rfl (Y.loadN (cs:=[.string d0.name,.slice A25 y17.length c26]) rfl (by kernel_rfl) (cells2 (eqC (blkCell B28 (i:=0) rfl)) (eqC (blkCell B28 (i:=1) rfl)))) ?_
  refine RL.store (v:=.agg #[.string d0.name,.slice A25 y17.length c26]) (cs':=#[.string d0.name,.slice A25 y17.length c26]) rfl rfl rfl B7 (by kernel_rfl) (by rfl) (by rfl) (by rfl) (fun w30 B31 ho32=>?_)
  have szw30:=ho32.size
  have B28:=B28.only_ ho32 (by intro hin; simp at hin; exact Eob13_ob9.symm hin)
  have G20:=OwN.only constructorOw_ok G20 ho32 (Ap.one Zo21_ob9)
  have T:=T.trans (ho32.below (by first|(simp; done)|(simp; omega)))
  refine RL.nil<|then_n<|wp_ret ?_
  obtain rfl:=sj hm
  exact (retc (cs:=[.string d0.name,.slice A25 y17.length c26]) rfl rfl rfl (by kernel_rfl) (blkCells B31) ⟨⟨_,_,rfl,G20⟩,T⟩)
noncomputable def m_laws_toDataS_A1 (xs8:List DData):Option (List DData):=
  some xs8
noncomputable def m_laws_toDataS_B1 (d0:List DData) (rec1:List DData→Int→Option (List DData)) (K1:List DData→Option (List DData)) (xs10:List DData) (i11:Int):Option (List DData):=
  (bif (decide (i11 < (d0.length:Int))) then ((getI d0 i11).bind fun x14=>((m_laws_toData x14).bind fun y24=>((getI xs10 i11).bind fun x34=>(rec1 (setI xs10 i11 y24) (i11+1))))) else (K1 xs10))
noncomputable def m_laws_toDataS_L1 (d0:List DData) (K1:List DData→Option (List DData)):Nat→List DData→Int→Option (List DData)
  |0,_,_=>none
  |g+1,xs10,i11=>m_laws_toDataS_B1 d0 (m_laws_toDataS_L1 d0 K1 g) K1 xs10 i11
noncomputable def m_laws_toDataS (d0:List DData):Option (List DData):=
  ((mustP (d0.length≤4294967296)).bind fun _=>(m_laws_toDataS_L1 d0 m_laws_toDataS_A1 (d0.length+1) (List.replicate d0.length ((⟨ByteArray.empty,[]⟩:DData):DData)) 0))
set_option maxHeartbeats 2000000 in
theorem c_m_laws_toDataS (d0:List DData) (r:List DData) (hm:m_laws_toDataS d0=some r) (v0:Value) (w:World) (hv0:Sl dataRd 2 w v0 d0) :
    Calls Tryz.prog 41 #[v0] w fun e w'=>(∃(v0:Value) (bs0:List Nat),e=.returned (v0)∧OwN 167 dataOw 2 w' w.heap.size v0 r bs0)∧Below w.heap.size w w':=by
  obtain ⟨Aa0,na0,ca0,rfl,ha0,ra0⟩:=hv0
  have ea0:=ha0.len; subst ea0
  have qa0:=len_le ra0
  have T:=Below.refl w.heap.size w
  unfold m_laws_toDataS at hm
  refine enter 23 Tryz.func41 rfl rfl rfl ?_
  intro f hf
  have s0:f 0=.slice Aa0 d0.length ca0:=hf 0 _ rfl
  refine wp_seq<|wp_rs rfl<|RQ.y rfl (Y.assign (v:=.slice none 0 0) rfl)<|RQ.nil<|then_n<|wp_seq<|wp_rl rfl<|RL.y rfl (Y.move (v:=.slice Aa0 d0.length ca0) s0)<|RL.y rfl (Y.len (by kernel_rfl) rfl) ?_
  obtain ⟨_,m1,hm⟩:=bnd hm
  have hk2:=mustP_some m1
  refine RL.makeN (O:=dataOw) (x0:=(⟨ByteArray.empty,[]⟩:DData)) (n:=d0.length) app_impl_Data (by decide) (fun w=>⟨none,0,0,[],rfl,⟨⟨rfl,.inl ⟨rfl,rfl⟩⟩,Nat.le_refl _,Nat.zero_le _⟩,rfl⟩) rfl rfl rfl hk2 (fun w3 G4 hb5 szw3=>?_)
  replace G4:=OwN.mono G4 T.size
  have T:=Tt T hb5
  refine RL.y rfl (Y.assign (v:=.slice (some ⟨w.heap.size,0,none⟩) d0.length d0.length) rfl)<|RL.nil<|then_n<|wp_seq<|wp_seq<|wp_rs rfl<|RQ.y rfl (Y.assign (v:=.int .i64 0) rfl)<|RQ.nil<|then_n<|wp_block ?_
  obtain ⟨K1,hK1,hm⟩ :∃K,K=m_laws_toDataS_A1∧m_laws_toDataS_L1 d0 K (d0.length+1) (List.replicate d0.length ((⟨ByteArray.empty,[]⟩:DData):DData)) 0=some r:=⟨_,rfl,hm⟩
  refine wp_loopX (fun g f w'=>∃(xs10:List DData) (i11:Int) (uxs10:Value) (bsxs10:List Nat),f 0=.slice Aa0 d0.length ca0∧f 3=uxs10∧OwN 167 dataOw 2 w' w.heap.size uxs10 xs10 bsxs10∧f 4=.int .i64 i11∧0≤i11∧Below w.heap.size w w'∧m_laws_toDataS_L1 d0 K1 g xs10 i11=some r) 0 (fun f w'=>∃(xs8:List DData) (uxs8:Value) (bsxs8:List Nat),f 3=uxs8∧OwN 167 dataOw 2 w' w.heap.size uxs8 xs8 bsxs8∧Below w.heap.size w w'∧m_laws_toDataS_A1 xs8=some r) (d0.length+1) ⟨(List.replicate d0.length ((⟨ByteArray.empty,[]⟩:DData):DData)),0,(.slice (some ⟨w.heap.size,0,none⟩) d0.length d0.length),([w.heap.size]),s0,rfl,G4,rfl,(by omega),T,hm⟩ ?_ ?_
  ·rintro f w9 ⟨xs8,uxs8,bsxs8,s3_1x,Guxs8,T,hm⟩
   unfold m_laws_toDataS_A1 at hm
   refine blk_hit (then_n ?_)
   refine wp_seq<|wp_rs rfl<|RQ.y rfl (Y.move (v:=uxs8) s3_1x)<|RQ.y rfl (Y.assign (v:=uxs8) rfl)<|RQ.nil<|then_n<|wp_ret ?_
   obtain rfl:=sj hm
   exact (ret1 rfl rfl rfl ⟨⟨_,_,rfl,Guxs8⟩,T⟩)
  rintro g f w12 ⟨xs10,i11,uxs10,bsxs10,s0_1,s3_1,Guxs10,s4_1,nn4_1,T,hm⟩
  rcases g with _|g
  ·simp only [m_laws_toDataS_L1] at hm; cases hm
  obtain ⟨rec1,hrec1,hm⟩ :∃z,z=m_laws_toDataS_L1 d0 K1 g∧m_laws_toDataS_B1 d0 z K1 xs10 i11=some r:=⟨_,rfl,hm⟩
  unfold m_laws_toDataS_B1 at hm
  refine wp_seq<|wp_seq<|wp_rs rfl<|RQ.y rfl (Y.move (v:=.int .i64 i11) s4_1)<|RQ.y rfl (Y.move (v:=.slice Aa0 d0.length ca0) s0_1)<|RQ.y rfl (Y.len (by kernel_rfl) rfl)<|RQ.y rfl (Y.binI (v:=.bool (decide (i11 < (d0.length:Int)))) rfl rfl rfl)<|RQ.nil<|then_n ?_
  rcases bcases (decide (i11 < (d0.length:Int))) with c13|c13
  ·replace hm:=cF c13 hm
   have pc13:=of_decide_eq_false c13
   refine cond_f rfl (vb rfl c13)<|wp_exit ?_
   exact (then_x (then_x (hit_x ⟨_,rfl,⟨xs10,(uxs10),bsxs10,s3_1,Guxs10,T,(by rw [hK1] at hm; exact hm)⟩⟩)))
  replace hm:=cT c13 hm
  have pc13:=of_decide_eq_true c13
  refine cond_t rfl (vb rfl c13)<|wp_skip<|then_n<|wp_seq<|wp_block<|wp_rl rfl<|RL.y rfl (Y.move (v:=uxs10) s3_1)<|RL.y rfl (Y.move (v:=.int .i64 i11) s4_1)<|RL.y rfl (Y.move (v:=.slice Aa0 d0.length ca0) s0_1)<|RL.y rfl (Y.move (v:=.int .i64 i11) s4_1) ?_
  obtain ⟨x14,hx17,hm⟩:=bnd hm
  obtain ⟨k15,hk18,hl19,hx17⟩:=getI_some hx17
  obtain ⟨b21,o22,rfl,hbb21⟩:=ha0.addr (by omega)
  obtain ⟨cs16,hRcs16,hc20⟩:=ha0.el hx17
  have hScs16:=hRcs16
  obtain ⟨A23,n23,c23,rfl,⟨h23,r23⟩⟩:=hRcs16
  have e23:=h23.len; subst e23
  have q23:=len_le r23
  refine RL.y rfl (Y.indexAddr (m:=k15) (sz:=2) rfl rfl hk18 hl19 (by kernel_rfl))<|RL.y rfl (Y.loadN (cs:=[.string x14.name,.slice A23 x14.cons.length c23]) rfl (by kernel_rfl) (cells2 (eqC (cellT T (hc20 0 _ rfl))) (eqC (cellT T (hc20 1 _ rfl))))) ?_
  obtain ⟨y24,e25,hm⟩:=bnd hm
  refine RL.call rfl (am1 rfl) (by kernel_rfl) ((c_m_laws_toData x14 _ e25 _ _ (stArg (R:=dataRd) ⟨_,_,_,rfl,⟨SlAt.now constructorRd_ok h23 (Nat.le_refl _) T,r23⟩⟩)).mono ?_)
  rintro _ w30 ⟨⟨v26,bs29,rfl,G27⟩,hb31⟩
  refine ⟨_,rfl,?_⟩
  have szw30:=hb31.size
  have T0w30:=T.size
  have Zo28_oxs10:Ap bs29 bsxs10:=(Ap.new (OwN.lo_ G27) (OwN.hi Guxs10))
  have Guxs10:=OwN.below dataOw_ok Guxs10 hb31
  have T:=Tt T hb31
  replace G27:=OwN.mono G27 T0w30
  obtain ⟨A32,c33,rfl⟩:=OwN.form Guxs10
  have qbA32:=OwN.bound Guxs10
  obtain ⟨x34,hx36,hm⟩:=bnd hm
  obtain ⟨k35,hk37,hl38,hx36⟩:=getI_some hx36
  obtain ⟨b39,rfl⟩:=OwN.addr0 Guxs10 (by omega)
  refine RL.y rfl (Y.indexAddr (m:=k35) (sz:=2) rfl rfl hk37 hl38 (by kernel_rfl)) ?_
  obtain ⟨A40,c41,rfl⟩:=OwN.form G27
  have qbA40:=OwN.bound G27
  obtain ⟨_,_,_,l43,hea42,a42,nd44,sb45,r46⟩:=OwN.own1 constructorOw_ok G27
  injection hea42 with e1 e2 e3; subst e1 e2 e3
  refine RL.storeNW (k:=k35) (a':=y24) (l:=l43) (fp:=bs29) dataOw_ok dataOw_one rfl rfl rfl Guxs10 hx36 ⟨_,_,_,l43,rfl,⟨a42,r46⟩,rfl⟩ nd44 sb45 (Ap.symm Zo28_oxs10) (OwN.both G27 (Nat.le_refl _)) (by kernel_rfl) (fun w47 G48 ho49=>?_)
  have szw47:=ho49.size
  have T:=T.trans (ho49.below (by intro b hb; simp at hb; subst hb; exact OwN.lo_ Guxs10 _ (OwN.row Guxs10 rfl)))
  have G48:OwN 167 dataOw 2 w47 w.heap.size (.slice (some ⟨b39,0,none⟩) xs10.length c33) (setI xs10 i11 y24) (bsxs10 ++ bs29):=by rw [setI_eq hk37]; exact G48
  refine RL.nil ?_
  refine blk_n (then_n ?_)
  refine wp_rs rfl<|RQ.y rfl (Y.move (v:=.int .i64 i11) s4_1)<|RQ.y rfl (Y.binI rfl rfl (binI_add (m:=i11) (by omega)))<|RQ.y rfl (Y.assign (v:=.int .i64 (i11+1)) rfl)<|RQ.nil ?_
  exact (then_n ⟨g,_,Nat.lt_succ_self _,rfl,⟨(setI xs10 i11 y24),(i11+1),(.slice (some ⟨b39,0,none⟩) xs10.length c33),(bsxs10 ++ bs29),s0_1,s3_1,G48,rfl,(by omega),T,(by rw [← hrec1]; exact hm)⟩⟩)
noncomputable def m_laws_toSignature (d0:DSignature):Option DSignature:=
  ((m_laws_toDataS d0.datas).bind fun y15=>((m_laws_toTypeS (SizeOf.sizeOf d0.defs) d0.defs).bind fun y28=>some (⟨y15,y28⟩:DSignature)))
set_option maxHeartbeats 2000000 in
theorem c_m_laws_toSignature (d0:DSignature) (r:DSignature) (hm:m_laws_toSignature d0=some r) (v0:Value) (w:World) (hv0:St signatureRd w v0 d0) :
    Calls Tryz.prog 10 #[v0] w fun e w'=>(∃(v0:Value) (bs0:List Nat) (v1:Value) (bs1:List Nat),e=.returned (.agg #[v0,v1])∧OwN 167 dataOw 2 w' w.heap.size v0 r.datas bs0∧OwN 114 typeOw 3 w' w.heap.size v1 r.defs bs1∧Ap bs0 bs1)∧Below w.heap.size w w':=by
  obtain ⟨csa0,rfl,⟨A1,n1,c1,A2,n2,c2,rfl,⟨h1,r1⟩,⟨h2,r2⟩⟩⟩:=hv0
  have e1:=h1.len; subst e1
  have q1:=len_le r1
  have e2:=h2.len; subst e2
  have q2:=len_le r2
  have T:=Below.refl w.heap.size w
  unfold m_laws_toSignature at hm
  refine enter 13 Tryz.func10 rfl rfl rfl ?_
  intro f hf
  have s0:f 0=.agg #[.slice A1 d0.datas.length c1,.slice A2 d0.defs.length c2]:=hf 0 _ rfl
  refine wp_seq<|wp_rl rfl ?_
  refine RL.box rfl s0 (fun w3 B4 hb5 szw3=>?_)
  replace B4:Blk w3 w.heap.size 25 #[.slice A1 d0.datas.length c1,.slice A2 d0.defs.length c2]:=B4
  have GB4:w.heap.size≤w.heap.size:=T.size
  have T:=Tt T hb5
  refine RL.alloc (z:=.agg #[.slice none 0 0,.slice none 0 0]) rfl (by kernel_rfl) (fun w7 B8 hb9 szw7=>?_)
  replace B8:Blk w7 w3.heap.size 38 #[.slice none 0 0,.slice none 0 0]:=B8
  have GB8:w.heap.size≤w3.heap.size:=T.size
  have Eob10_ob6:=Nat.ne_of_lt B4.lt
  have B4:=blkT B4 hb9
  have T:=Tt T hb9
  refine RL.nil<|then_n<|wp_seq<|wp_rl rfl ?_
  refine RL.alloc (z:=.agg #[.slice none 0 0,.slice none 0 0]) rfl (by kernel_rfl) (fun w11 B12 hb13 szw11=>?_)
  replace B12:Blk w11 w7.heap.size 38 #[.slice none 0 0,.slice none 0 0]:=B12
  have GB12:w.heap.size≤w7.heap.size:=T.size
  have Eob14_ob6:=Nat.ne_of_lt B4.lt
  have Eob14_ob10:=Nat.ne_of_lt B8.lt
  have B4:=blkT B4 hb13
  have B8:=blkT B8 hb13
  have T:=Tt T hb13
  refine RL.nil<|then_n<|wp_seq<|wp_rl rfl<|RL.y rfl (Y.fieldAddr (off:=0) rfl (by kernel_rfl))<|RL.y rfl (Y.load (v:=.slice A1 d0.datas.length c1) rfl (by kernel_rfl) (eqC (blkCell B4 (i:=0) rfl))) ?_
  obtain ⟨y15,e16,hm⟩:=bnd hm
  refine RL.call rfl (am1 rfl) (by kernel_rfl) ((c_m_laws_toDataS d0.datas _ e16 _ _ (slArg dataRd_ok h1 r1 T)).mono ?_)
  rintro _ w21 ⟨⟨v17,bs20,rfl,G18⟩,hb22⟩
  refine ⟨_,rfl,?_⟩
  have szw21:=hb22.size
  have T0w21:=T.size
  have Zo19_ob6:Ap bs20 [w.heap.size]:=(Ap.new (OwN.lo_ G18) (one_hi B4.lt))
  have Zo19_ob10:Ap bs20 [w3.heap.size]:=(Ap.new (OwN.lo_ G18) (one_hi B8.lt))
  have Zo19_ob14:Ap bs20 [w7.heap.size]:=(Ap.new (OwN.lo_ G18) (one_hi B12.lt))
  have B4:=blkT B4 hb22
  have B8:=blkT B8 hb22
  have B12:=blkT B12 hb22
  have T:=Tt T hb22
  replace G18:=OwN.mono G18 T0w21
  refine RL.y rfl (Y.fieldAddr (off:=0) rfl (by kernel_rfl)) ?_
  obtain ⟨A23,c24,rfl⟩:=OwN.form G18
  have qbA23:=OwN.bound G18
  refine RL.store (v:=.slice A23 y15.length c24) (cs':=#[.slice A23 y15.length c24,.slice none 0 0]) rfl rfl rfl B12 (by kernel_rfl) (by rfl) (by rfl) (by rfl) (fun w25 B26 ho27=>?_)
  have szw25:=ho27.size
  have B4:=B4.only_ ho27 (by intro hin; simp at hin; exact Eob14_ob6 hin)
  have B8:=B8.only_ ho27 (by intro hin; simp at hin; exact Eob14_ob10 hin)
  have G18:=OwN.only dataOw_ok G18 ho27 (Ap.one Zo19_ob14)
  have T:=T.trans (ho27.below (by first|(simp; done)|(simp; omega)))
  refine RL.nil<|then_n<|wp_seq<|wp_rl rfl<|RL.y rfl (Y.fieldAddr (off:=1) rfl (by kernel_rfl))<|RL.y rfl (Y.load (v:=.slice A2 d0.defs.length c2) rfl (by kernel_rfl) (eqC (blkCell B4 (i:=1) rfl))) ?_
  obtain ⟨y28,e29,hm⟩:=bnd hm
  refine RL.call rfl (am1 rfl) (by kernel_rfl) ((c_m_laws_toTypeS (SizeOf.sizeOf d0.defs) d0.defs _ e29 _ _ (slArg typeRd_ok h2 r2 T)).mono ?_)
  rintro _ w34 ⟨⟨v30,bs33,rfl,G31⟩,hb35⟩
  refine ⟨_,rfl,?_⟩
  have szw34:=hb35.size
  have T0w34:=T.size
  have Zo32_ob6:Ap bs33 [w.heap.size]:=(Ap.new (OwN.lo_ G31) (one_hi B4.lt))
  have Zo32_ob10:Ap bs33 [w3.heap.size]:=(Ap.new (OwN.lo_ G31) (one_hi B8.lt))
  have Zo32_ob14:Ap bs33 [w7.heap.size]:=(Ap.new (OwN.lo_ G31) (one_hi B26.lt))
  have Zo32_o19:Ap bs33 bs20:=(Ap.new (OwN.lo_ G31) (OwN.hi G18))
  have B4:=blkT B4 hb35
  have B8:=blkT B8 hb35
  have B26:=blkT B26 hb35
  have G18:=OwN.below dataOw_ok G18 hb35
  have T:=Tt T hb35
  replace G31:=OwN.mono G31 T0w34
  refine RL.y rfl (Y.fieldAddr (off:=1) rfl (by kernel_rfl)) ?_
  obtain ⟨A36,c37,rfl⟩:=OwN.form G31
  have qbA36:=OwN.bound G31
  refine RL.store (v:=.slice A36 y28.length c37) (cs':=#[.slice A23 y15.length c24,.slice A36 y28.length c37]) rfl rfl rfl B26 (by kernel_rfl) (by rfl) (by rfl) (by rfl) (fun w38 B39 ho40=>?_)
  have szw38:=ho40.size
  have B4:=B4.only_ ho40 (by intro hin; simp at hin; exact Eob14_ob6 hin)
  have B8:=B8.only_ ho40 (by intro hin; simp at hin; exact Eob14_ob10 hin)
  have G18:=OwN.only dataOw_ok G18 ho40 (Ap.one Zo19_ob14)
  have G31:=OwN.only typeOw_ok G31 ho40 (Ap.one Zo32_ob14)
  have T:=T.trans (ho40.below (by first|(simp; done)|(simp; omega)))
  refine RL.nil<|then_n<|wp_seq<|wp_rl rfl<|RL.y rfl (Y.loadN (cs:=[.slice A23 y15.length c24,.slice A36 y28.length c37]) rfl (by kernel_rfl) (cells2 (eqC (blkCell B39 (i:=0) rfl)) (eqC (blkCell B39 (i:=1) rfl)))) ?_
  refine RL.store (v:=.agg #[.slice A23 y15.length c24,.slice A36 y28.length c37]) (cs':=#[.slice A23 y15.length c24,.slice A36 y28.length c37]) rfl rfl rfl B8 (by kernel_rfl) (by rfl) (by rfl) (by rfl) (fun w41 B42 ho43=>?_)
  have szw41:=ho43.size
  have B39:=B39.only_ ho43 (by intro hin; simp at hin; exact Eob14_ob10.symm hin)
  have G18:=OwN.only dataOw_ok G18 ho43 (Ap.one Zo19_ob10)
  have G31:=OwN.only typeOw_ok G31 ho43 (Ap.one Zo32_ob10)
  have T:=T.trans (ho43.below (by first|(simp; done)|(simp; omega)))
  refine RL.nil<|then_n<|wp_ret ?_
  obtain rfl:=sj hm
  exact (retc (cs:=[.slice A23 y15.length c24,.slice A36 y28.length c37]) rfl rfl rfl (by kernel_rfl) (blkCells B42) ⟨⟨_,_,_,_,rfl,G18,G31,(Ap.symm Zo32_o19)⟩,T⟩)
noncomputable def m_laws_eqConstructor (d0:DConstructor) (d1:DConstructor):Option Bool:=
  (bif (d0.name.toList==d1.name.toList) then ((m_laws_eqTypeS (SizeOf.sizeOf d0.fields) d0.fields d1.fields).bind fun y12=>(bif y12 then some true else some false)) else some false)
set_option maxHeartbeats 2000000 in
theorem c_m_laws_eqConstructor (d0:DConstructor) (d1:DConstructor) (r:Bool) (hm:m_laws_eqConstructor d0 d1=some r) (v0:Value) (v1:Value) (w:World) (hv0:St constructorRd w v0 d0) (hv1:St constructorRd w v1 d1) :
    Calls Tryz.prog 214 #[v0,v1] w fun e w'=>e=.returned (.bool r)∧Below w.heap.size w w':=by
  obtain ⟨csa0,rfl,⟨A1,n1,c1,rfl,⟨h1,r1⟩⟩⟩:=hv0
  have e1:=h1.len; subst e1
  have q1:=len_le r1
  obtain ⟨csa1,rfl,⟨A2,n2,c2,rfl,⟨h2,r2⟩⟩⟩:=hv1
  have e2:=h2.len; subst e2
  have q2:=len_le r2
  have T:=Below.refl w.heap.size w
  unfold m_laws_eqConstructor at hm
  refine enter 16 Tryz.func214 rfl rfl rfl ?_
  intro f hf
  have s0:f 0=.agg #[.string d0.name,.slice A1 d0.fields.length c1]:=hf 0 _ rfl
  have s1:f 1=.agg #[.string d1.name,.slice A2 d1.fields.length c2]:=hf 1 _ rfl
  refine wp_seq<|wp_rl rfl ?_
  refine RL.box rfl s0 (fun w3 B4 hb5 szw3=>?_)
  replace B4:Blk w3 w.heap.size 173 #[.string d0.name,.slice A1 d0.fields.length c1]:=B4
  have GB4:w.heap.size≤w.heap.size:=T.size
  have T:=Tt T hb5
  refine RL.box rfl s1 (fun w7 B8 hb9 szw7=>?_)
  replace B8:Blk w7 w3.heap.size 173 #[.string d1.name,.slice A2 d1.fields.length c2]:=B8
  have GB8:w.heap.size≤w3.heap.size:=T.size
  have Eob10_ob6:=Nat.ne_of_lt B4.lt
  have B4:=blkT B4 hb9
  have T:=Tt T hb9
  refine RL.y rfl (Y.assign (v:=.bool false) rfl)<|RL.nil<|then_n<|wp_seq<|wp_seq<|wp_rs rfl<|RQ.y rfl (Y.fieldAddr (off:=0) rfl (by kernel_rfl))<|RQ.y rfl (Y.load (v:=.string d0.name) rfl (by kernel_rfl) (eqC (blkCell B4 (i:=0) rfl)))<|RQ.y rfl (Y.fieldAddr (off:=0) rfl (by kernel_rfl))<|RQ.y rfl (Y.load (v:=.string d1.name) rfl (by kernel_rfl) (eqC (blkCell B8 (i:=0) rfl)))<|RQ.y rfl (Y.neStr rfl rfl (by kernel_rfl))<|RQ.nil<|then_n ?_
  rcases bcases (d0.name.toList==d1.name.toList) with c11|c11
  ·replace hm:=cF c11 hm
   refine cond_t rfl (vbn rfl c11 rfl)<|wp_seq<|wp_rs rfl<|RQ.y rfl (Y.assign (v:=.bool false) rfl)<|RQ.nil<|then_n<|wp_ret ?_
   obtain rfl:=sj hm
   exact (then_r (ret1 rfl rfl rfl ⟨rfl,T⟩))
  replace hm:=cT c11 hm
  refine cond_f rfl (vbn rfl c11 rfl)<|wp_skip<|then_n<|wp_seq<|wp_seq<|wp_rb rfl<|RQ.y rfl (Y.fieldAddr (off:=1) rfl (by kernel_rfl))<|RQ.y rfl (Y.load (v:=.slice A1 d0.fields.length c1) rfl (by kernel_rfl) (beC (blkCell B4 (i:=1) rfl)))<|RQ.y rfl (Y.fieldAddr (off:=1) rfl (by kernel_rfl))<|RQ.y rfl (Y.load (v:=.slice A2 d1.fields.length c2) rfl (by kernel_rfl) (beC (blkCell B8 (i:=1) rfl))) ?_
  obtain ⟨y12,e13,hm⟩:=bnd hm
  refine RQ.call rfl (am2 rfl rfl) (by kernel_rfl) (v:=.bool y12) (bel (K:=fun _=>True) fun w' hb'=>(c_m_laws_eqTypeS (SizeOf.sizeOf d0.fields) d0.fields d1.fields _ e13 _ _ w' (slArg typeRd_ok h1 r1 (Tt T hb')) (slArg typeRd_ok h2 r2 (Tt T hb'))))<|RQ.y rfl (Y.not (b':=(!y12)) rfl rfl)<|RQ.nil ?_
  intro w14 hb15
  have szw14:=hb15.size
  have T:=Tt T hb15
  refine then_n ?_
  rcases bcases y12 with c16|c16
  ·replace hm:=cF c16 hm
   refine cond_t rfl (vbn rfl c16 rfl)<|wp_seq<|wp_rs rfl<|RQ.y rfl (Y.assign (v:=.bool false) rfl)<|RQ.nil<|then_n<|wp_ret ?_
   obtain rfl:=sj hm
   exact (then_r (ret1 rfl rfl rfl ⟨rfl,T⟩))
  replace hm:=cT c16 hm
  refine cond_f rfl (vbn rfl c16 rfl)<|wp_skip<|then_n<|wp_seq<|wp_rs rfl<|RQ.y rfl (Y.assign (v:=.bool true) rfl)<|RQ.nil<|then_n<|wp_ret ?_
  obtain rfl:=sj hm
  exact (ret1 rfl rfl rfl ⟨rfl,T⟩)
noncomputable def m_laws_eqConstructorS_A1:Option Bool:=
  some true
noncomputable def m_laws_eqConstructorS_B1 (d0:List DConstructor) (d1:List DConstructor) (rec1:Int→Option Bool) (K1:Option Bool) (i3:Int):Option Bool:=
  (bif (decide (i3 < (d0.length:Int))) then ((getI d0 i3).bind fun x6=>((getI d1 i3).bind fun x16=>((m_laws_eqConstructor x6 x16).bind fun y26=>(bif y26 then (rec1 (i3+1)) else some false)))) else (K1))
noncomputable def m_laws_eqConstructorS_L1 (d0:List DConstructor) (d1:List DConstructor) (K1:Option Bool):Nat→Int→Option Bool
  |0,_=>none
  |g+1,i3=>m_laws_eqConstructorS_B1 d0 d1 (m_laws_eqConstructorS_L1 d0 d1 K1 g) K1 i3
noncomputable def m_laws_eqConstructorS (d0:List DConstructor) (d1:List DConstructor):Option Bool:=
  (bif ((d0.length:Int) != (d1.length:Int)) then some false else (m_laws_eqConstructorS_L1 d0 d1 m_laws_eqConstructorS_A1 (d0.length+1) 0))
set_option maxHeartbeats 2000000 in
theorem c_m_laws_eqConstructorS (d0:List DConstructor) (d1:List DConstructor) (r:Bool) (hm:m_laws_eqConstructorS d0 d1=some r) (v0:Value) (v1:Value) (w:World) (hv0:Sl constructorRd 2 w v0 d0) (hv1:Sl constructorRd 2 w v1 d1) :
    Calls Tryz.prog 168 #[v0,v1] w fun e w'=>e=.returned (.bool r)∧Below w.heap.size w w':=by
  obtain ⟨Aa0,na0,ca0,rfl,ha0,ra0⟩:=hv0
  have ea0:=ha0.len; subst ea0
  have qa0:=len_le ra0
  obtain ⟨Aa1,na1,ca1,rfl,ha1,ra1⟩:=hv1
  have ea1:=ha1.len; subst ea1
  have qa1:=len_le ra1
  have T:=Below.refl w.heap.size w
  unfold m_laws_eqConstructorS at hm
  refine enter 27 Tryz.func168 rfl rfl rfl ?_
  intro f hf
  have s0:f 0=.slice Aa0 d0.length ca0:=hf 0 _ rfl
  have s1:f 1=.slice Aa1 d1.length ca1:=hf 1 _ rfl
  refine wp_seq<|wp_rs rfl<|RQ.y rfl (Y.assign (v:=.bool false) rfl)<|RQ.nil<|then_n<|wp_seq<|wp_seq<|wp_rs rfl<|RQ.y rfl (Y.move (v:=.slice Aa0 d0.length ca0) s0)<|RQ.y rfl (Y.len (by kernel_rfl) rfl)<|RQ.y rfl (Y.move (v:=.slice Aa1 d1.length ca1) s1)<|RQ.y rfl (Y.len (by kernel_rfl) rfl)<|RQ.y rfl (Y.binI (v:=.bool ((d0.length:Int) != (d1.length:Int))) rfl rfl rfl)<|RQ.nil<|then_n ?_
  rcases bcases ((d0.length:Int) != (d1.length:Int)) with c1|c1
  ·replace hm:=cF c1 hm
   refine cond_f rfl (vb rfl c1)<|wp_skip<|then_n<|wp_seq<|wp_seq<|wp_rs rfl<|RQ.y rfl (Y.assign (v:=.int .i64 0) rfl)<|RQ.nil<|then_n<|wp_block ?_
   obtain ⟨K1,hK1,hm⟩ :∃K,K=m_laws_eqConstructorS_A1∧m_laws_eqConstructorS_L1 d0 d1 K (d0.length+1) 0=some r:=⟨_,rfl,hm⟩
   refine wp_loopX (fun g f w'=>∃(i3:Int),f 0=.slice Aa0 d0.length ca0∧f 1=.slice Aa1 d1.length ca1∧f 5=.int .i64 i3∧0≤i3∧Below w.heap.size w w'∧m_laws_eqConstructorS_L1 d0 d1 K1 g i3=some r) 0 (fun f w'=>Below w.heap.size w w'∧m_laws_eqConstructorS_A1  = some r) (d0.length+1) ⟨0,s0,s1,rfl,(by omega),T,hm⟩ ?_ ?_
   ·rintro f w2 ⟨T,hm⟩
    unfold m_laws_eqConstructorS_A1 at hm
    refine blk_hit (then_n ?_)
    refine wp_seq<|wp_rs rfl<|RQ.y rfl (Y.assign (v:=.bool true) rfl)<|RQ.nil<|then_n<|wp_ret ?_
    obtain rfl:=sj hm
    exact (ret1 rfl rfl rfl ⟨rfl,T⟩)
   rintro g f w4 ⟨i3,s0_1,s1_1,s5_1,nn5_1,T,hm⟩
   rcases g with _|g
   ·simp only [m_laws_eqConstructorS_L1] at hm; cases hm
   obtain ⟨rec1,hrec1,hm⟩ :∃z,z=m_laws_eqConstructorS_L1 d0 d1 K1 g∧m_laws_eqConstructorS_B1 d0 d1 z K1 i3=some r:=⟨_,rfl,hm⟩
   unfold m_laws_eqConstructorS_B1 at hm
   refine wp_seq<|wp_seq<|wp_rs rfl<|RQ.y rfl (Y.move (v:=.int .i64 i3) s5_1)<|RQ.y rfl (Y.move (v:=.slice Aa0 d0.length ca0) s0_1)<|RQ.y rfl (Y.len (by kernel_rfl) rfl)<|RQ.y rfl (Y.binI (v:=.bool (decide (i3 < (d0.length:Int)))) rfl rfl rfl)<|RQ.nil<|then_n ?_
   rcases bcases (decide (i3 < (d0.length:Int))) with c5|c5
   ·replace hm:=cF c5 hm
    have pc5:=of_decide_eq_false c5
    refine cond_f rfl (vb rfl c5)<|wp_exit ?_
    exact (then_x (then_x (hit_x ⟨_,rfl,⟨T,(by rw [hK1] at hm; exact hm)⟩⟩)))
   replace hm:=cT c5 hm
   have pc5:=of_decide_eq_true c5
   refine cond_t rfl (vb rfl c5)<|wp_skip<|then_n<|wp_seq<|wp_block<|wp_seq<|wp_rbd (by kernel_rfl) (by kernel_rfl)<|RQ.y rfl (Y.move (v:=.slice Aa0 d0.length ca0) s0_1)<|RQ.y rfl (Y.move (v:=.int .i64 i3) s5_1) ?_
   obtain ⟨x6,hx9,hm⟩:=bnd hm
   obtain ⟨k7,hk10,hl11,hx9⟩:=getI_some hx9
   obtain ⟨b13,o14,rfl,hbb13⟩:=ha0.addr (by omega)
   obtain ⟨cs8,hRcs8,hc12⟩:=ha0.el hx9
   have hScs8:=hRcs8
   obtain ⟨A15,n15,c15,rfl,⟨h15,r15⟩⟩:=hRcs8
   have e15:=h15.len; subst e15
   have q15:=len_le r15
   refine RQ.y rfl (Y.indexAddr (m:=k7) (sz:=2) rfl rfl hk10 hl11 (by kernel_rfl))<|RQ.y rfl (Y.loadN (cs:=[.string x6.name,.slice A15 x6.fields.length c15]) rfl (by kernel_rfl) (cells2 (beC (cellT T (hc12 0 _ rfl))) (beC (cellT T (hc12 1 _ rfl)))))<|RQ.y rfl (Y.move (v:=.slice Aa1 d1.length ca1) s1_1)<|RQ.y rfl (Y.move (v:=.int .i64 i3) s5_1) ?_
   obtain ⟨x16,hx19,hm⟩:=bnd hm
   obtain ⟨k17,hk20,hl21,hx19⟩:=getI_some hx19
   obtain ⟨b23,o24,rfl,hbb23⟩:=ha1.addr (by omega)
   obtain ⟨cs18,hRcs18,hc22⟩:=ha1.el hx19
   have hScs18:=hRcs18
   obtain ⟨A25,n25,c25,rfl,⟨h25,r25⟩⟩:=hRcs18
   have e25:=h25.len; subst e25
   have q25:=len_le r25
   refine RQ.y rfl (Y.indexAddr (m:=k17) (sz:=2) rfl rfl hk20 hl21 (by kernel_rfl))<|RQ.y rfl (Y.loadN (cs:=[.string x16.name,.slice A25 x16.fields.length c25]) rfl (by kernel_rfl) (cells2 (beC (cellT T (hc22 0 _ rfl))) (beC (cellT T (hc22 1 _ rfl))))) ?_
   obtain ⟨y26,e27,hm⟩:=bnd hm
   refine RQ.call rfl (am2 rfl rfl) (by kernel_rfl) (v:=.bool y26) (bel (K:=fun _=>True) fun w' hb'=>(c_m_laws_eqConstructor x6 x16 _ e27 _ _ w' (stArg (R:=constructorRd) ⟨_,_,_,rfl,⟨SlAt.now typeRd_ok h15 (Nat.le_refl _) (Tt T hb'),r15⟩⟩) (stArg (R:=constructorRd) ⟨_,_,_,rfl,⟨SlAt.now typeRd_ok h25 (Nat.le_refl _) (Tt T hb'),r25⟩⟩)))<|RQ.y rfl (Y.not (b':=(!y26)) rfl rfl)<|RQ.nil ?_
   intro w28 hb29
   have szw28:=hb29.size
   have T:=Tt T hb29
   refine then_n ?_
   rcases bcases y26 with c30|c30
   ·replace hm:=cF c30 hm
    refine cond_t rfl (vbn rfl c30 rfl)<|wp_seq<|wp_rs rfl<|RQ.y rfl (Y.assign (v:=.bool false) rfl)<|RQ.nil<|then_n<|wp_ret ?_
    obtain rfl:=sj hm
    exact (blk_r (then_r (then_r (hit_r (blk_r (then_r (ret1 rfl rfl rfl ⟨rfl,T⟩)))))))
   replace hm:=cT c30 hm
   refine cond_f rfl (vbn rfl c30 rfl)<|wp_skip ?_
   refine blk_n (then_n ?_)
   refine wp_rs rfl<|RQ.y rfl (Y.move (v:=.int .i64 i3) s5_1)<|RQ.y rfl (Y.binI rfl rfl (binI_add (m:=i3) (by omega)))<|RQ.y rfl (Y.assign (v:=.int .i64 (i3+1)) rfl)<|RQ.nil ?_
   exact (then_n ⟨g,_,Nat.lt_succ_self _,rfl,⟨(i3+1),s0_1,s1_1,rfl,(by omega),T,(by rw [← hrec1]; exact hm)⟩⟩)
  replace hm:=cT c1 hm
  refine cond_t rfl (vb rfl c1)<|wp_seq<|wp_rs rfl<|RQ.y rfl (Y.assign (v:=.bool false) rfl)<|RQ.nil<|then_n<|wp_ret ?_
  obtain rfl:=sj hm
  exact (then_r (ret1 rfl rfl rfl ⟨rfl,T⟩))
noncomputable def m_laws_eqData (d0:DData) (d1:DData):Option Bool:=
  (bif (d0.name.toList==d1.name.toList) then ((m_laws_eqConstructorS d0.cons d1.cons).bind fun y12=>(bif y12 then some true else some false)) else some false)
set_option maxHeartbeats 2000000 in
theorem c_m_laws_eqData (d0:DData) (d1:DData) (r:Bool) (hm:m_laws_eqData d0 d1=some r) (v0:Value) (v1:Value) (w:World) (hv0:St dataRd w v0 d0) (hv1:St dataRd w v1 d1) :
    Calls Tryz.prog 101 #[v0,v1] w fun e w'=>e=.returned (.bool r)∧Below w.heap.size w w':=by
  obtain ⟨csa0,rfl,⟨A1,n1,c1,rfl,⟨h1,r1⟩⟩⟩:=hv0
  have e1:=h1.len; subst e1
  have q1:=len_le r1
  obtain ⟨csa1,rfl,⟨A2,n2,c2,rfl,⟨h2,r2⟩⟩⟩:=hv1
  have e2:=h2.len; subst e2
  have q2:=len_le r2
  have T:=Below.refl w.heap.size w
  unfold m_laws_eqData at hm
  refine enter 16 Tryz.func101 rfl rfl rfl ?_
  intro f hf
  have s0:f 0=.agg #[.string d0.name,.slice A1 d0.cons.length c1]:=hf 0 _ rfl
  have s1:f 1=.agg #[.string d1.name,.slice A2 d1.cons.length c2]:=hf 1 _ rfl
  refine wp_seq<|wp_rl rfl ?_
  refine RL.box rfl s0 (fun w3 B4 hb5 szw3=>?_)
  replace B4:Blk w3 w.heap.size 167 #[.string d0.name,.slice A1 d0.cons.length c1]:=B4
  have GB4:w.heap.size≤w.heap.size:=T.size
  have T:=Tt T hb5
  refine RL.box rfl s1 (fun w7 B8 hb9 szw7=>?_)
  replace B8:Blk w7 w3.heap.size 167 #[.string d1.name,.slice A2 d1.cons.length c2]:=B8
  have GB8:w.heap.size≤w3.heap.size:=T.size
  have Eob10_ob6:=Nat.ne_of_lt B4.lt
  have B4:=blkT B4 hb9
  have T:=Tt T hb9
  refine RL.y rfl (Y.assign (v:=.bool false) rfl)<|RL.nil<|then_n<|wp_seq<|wp_seq<|wp_rs rfl<|RQ.y rfl (Y.fieldAddr (off:=0) rfl (by kernel_rfl))<|RQ.y rfl (Y.load (v:=.string d0.name) rfl (by kernel_rfl) (eqC (blkCell B4 (i:=0) rfl)))<|RQ.y rfl (Y.fieldAddr (off:=0) rfl (by kernel_rfl))<|RQ.y rfl (Y.load (v:=.string d1.name) rfl (by kernel_rfl) (eqC (blkCell B8 (i:=0) rfl)))<|RQ.y rfl (Y.neStr rfl rfl (by kernel_rfl))<|RQ.nil<|then_n ?_
  rcases bcases (d0.name.toList==d1.name.toList) with c11|c11
  ·replace hm:=cF c11 hm
   refine cond_t rfl (vbn rfl c11 rfl)<|wp_seq<|wp_rs rfl<|RQ.y rfl (Y.assign (v:=.bool false) rfl)<|RQ.nil<|then_n<|wp_ret ?_
   obtain rfl:=sj hm
   exact (then_r (ret1 rfl rfl rfl ⟨rfl,T⟩))
  replace hm:=cT c11 hm
  refine cond_f rfl (vbn rfl c11 rfl)<|wp_skip<|then_n<|wp_seq<|wp_seq<|wp_rb rfl<|RQ.y rfl (Y.fieldAddr (off:=1) rfl (by kernel_rfl))<|RQ.y rfl (Y.load (v:=.slice A1 d0.cons.length c1) rfl (by kernel_rfl) (beC (blkCell B4 (i:=1) rfl)))<|RQ.y rfl (Y.fieldAddr (off:=1) rfl (by kernel_rfl))<|RQ.y rfl (Y.load (v:=.slice A2 d1.cons.length c2) rfl (by kernel_rfl) (beC (blkCell B8 (i:=1) rfl))) ?_
  obtain ⟨y12,e13,hm⟩:=bnd hm
  refine RQ.call rfl (am2 rfl rfl) (by kernel_rfl) (v:=.bool y12) (bel (K:=fun _=>True) fun w' hb'=>(c_m_laws_eqConstructorS d0.cons d1.cons _ e13 _ _ w' (slArg constructorRd_ok h1 r1 (Tt T hb')) (slArg constructorRd_ok h2 r2 (Tt T hb'))))<|RQ.y rfl (Y.not (b':=(!y12)) rfl rfl)<|RQ.nil ?_
  intro w14 hb15
  have szw14:=hb15.size
  have T:=Tt T hb15
  refine then_n ?_
  rcases bcases y12 with c16|c16
  ·replace hm:=cF c16 hm
   refine cond_t rfl (vbn rfl c16 rfl)<|wp_seq<|wp_rs rfl<|RQ.y rfl (Y.assign (v:=.bool false) rfl)<|RQ.nil<|then_n<|wp_ret ?_
   obtain rfl:=sj hm
   exact (then_r (ret1 rfl rfl rfl ⟨rfl,T⟩))
  replace hm:=cT c16 hm
  refine cond_f rfl (vbn rfl c16 rfl)<|wp_skip<|then_n<|wp_seq<|wp_rs rfl<|RQ.y rfl (Y.assign (v:=.bool true) rfl)<|RQ.nil<|then_n<|wp_ret ?_
  obtain rfl:=sj hm
  exact (ret1 rfl rfl rfl ⟨rfl,T⟩)
noncomputable def m_laws_eqDataS_A1:Option Bool:=
  some true
noncomputable def m_laws_eqDataS_B1 (d0:List DData) (d1:List DData) (rec1:Int→Option Bool) (K1:Option Bool) (i3:Int):Option Bool:=
  (bif (decide (i3 < (d0.length:Int))) then ((getI d0 i3).bind fun x6=>((getI d1 i3).bind fun x16=>((m_laws_eqData x6 x16).bind fun y26=>(bif y26 then (rec1 (i3+1)) else some false)))) else (K1))
noncomputable def m_laws_eqDataS_L1 (d0:List DData) (d1:List DData) (K1:Option Bool):Nat→Int→Option Bool
  |0,_=>none
  |g+1,i3=>m_laws_eqDataS_B1 d0 d1 (m_laws_eqDataS_L1 d0 d1 K1 g) K1 i3
noncomputable def m_laws_eqDataS (d0:List DData) (d1:List DData):Option Bool:=
  (bif ((d0.length:Int) != (d1.length:Int)) then some false else (m_laws_eqDataS_L1 d0 d1 m_laws_eqDataS_A1 (d0.length+1) 0))
set_option maxHeartbeats 2000000 in
theorem c_m_laws_eqDataS (d0:List DData) (d1:List DData) (r:Bool) (hm:m_laws_eqDataS d0 d1=some r) (v0:Value) (v1:Value) (w:World) (hv0:Sl dataRd 2 w v0 d0) (hv1:Sl dataRd 2 w v1 d1) :
    Calls Tryz.prog 47 #[v0,v1] w fun e w'=>e=.returned (.bool r)∧Below w.heap.size w w':=by
  obtain ⟨Aa0,na0,ca0,rfl,ha0,ra0⟩:=hv0
  have ea0:=ha0.len; subst ea0
  have qa0:=len_le ra0
  obtain ⟨Aa1,na1,ca1,rfl,ha1,ra1⟩:=hv1
  have ea1:=ha1.len; subst ea1
  have qa1:=len_le ra1
  have T:=Below.refl w.heap.size w
  unfold m_laws_eqDataS at hm
  refine enter 27 Tryz.func47 rfl rfl rfl ?_
  intro f hf
  have s0:f 0=.slice Aa0 d0.length ca0:=hf 0 _ rfl
  have s1:f 1=.slice Aa1 d1.length ca1:=hf 1 _ rfl
  refine wp_seq<|wp_rs rfl<|RQ.y rfl (Y.assign (v:=.bool false) rfl)<|RQ.nil<|then_n<|wp_seq<|wp_seq<|wp_rs rfl<|RQ.y rfl (Y.move (v:=.slice Aa0 d0.length ca0) s0)<|RQ.y rfl (Y.len (by kernel_rfl) rfl)<|RQ.y rfl (Y.move (v:=.slice Aa1 d1.length ca1) s1)<|RQ.y rfl (Y.len (by kernel_rfl) rfl)<|RQ.y rfl (Y.binI (v:=.bool ((d0.length:Int) != (d1.length:Int))) rfl rfl rfl)<|RQ.nil<|then_n ?_
  rcases bcases ((d0.length:Int) != (d1.length:Int)) with c1|c1
  ·replace hm:=cF c1 hm
   refine cond_f rfl (vb rfl c1)<|wp_skip<|then_n<|wp_seq<|wp_seq<|wp_rs rfl<|RQ.y rfl (Y.assign (v:=.int .i64 0) rfl)<|RQ.nil<|then_n<|wp_block ?_
   obtain ⟨K1,hK1,hm⟩ :∃K,K=m_laws_eqDataS_A1∧m_laws_eqDataS_L1 d0 d1 K (d0.length+1) 0=some r:=⟨_,rfl,hm⟩
   refine wp_loopX (fun g f w'=>∃(i3:Int),f 0=.slice Aa0 d0.length ca0∧f 1=.slice Aa1 d1.length ca1∧f 5=.int .i64 i3∧0≤i3∧Below w.heap.size w w'∧m_laws_eqDataS_L1 d0 d1 K1 g i3=some r) 0 (fun f w'=>Below w.heap.size w w'∧m_laws_eqDataS_A1  = some r) (d0.length+1) ⟨0,s0,s1,rfl,(by omega),T,hm⟩ ?_ ?_
   ·rintro f w2 ⟨T,hm⟩
    unfold m_laws_eqDataS_A1 at hm
    refine blk_hit (then_n ?_)
    refine wp_seq<|wp_rs rfl<|RQ.y rfl (Y.assign (v:=.bool true) rfl)<|RQ.nil<|then_n<|wp_ret ?_
    obtain rfl:=sj hm
    exact (ret1 rfl rfl rfl ⟨rfl,T⟩)
   rintro g f w4 ⟨i3,s0_1,s1_1,s5_1,nn5_1,T,hm⟩
   rcases g with _|g
   ·simp only [m_laws_eqDataS_L1] at hm; cases hm
   obtain ⟨rec1,hrec1,hm⟩ :∃z,z=m_laws_eqDataS_L1 d0 d1 K1 g∧m_laws_eqDataS_B1 d0 d1 z K1 i3=some r:=⟨_,rfl,hm⟩
   unfold m_laws_eqDataS_B1 at hm
   refine wp_seq<|wp_seq<|wp_rs rfl<|RQ.y rfl (Y.move (v:=.int .i64 i3) s5_1)<|RQ.y rfl (Y.move (v:=.slice Aa0 d0.length ca0) s0_1)<|RQ.y rfl (Y.len (by kernel_rfl) rfl)<|RQ.y rfl (Y.binI (v:=.bool (decide (i3 < (d0.length:Int)))) rfl rfl rfl)<|RQ.nil<|then_n ?_
   rcases bcases (decide (i3 < (d0.length:Int))) with c5|c5
   ·replace hm:=cF c5 hm
    have pc5:=of_decide_eq_false c5
    refine cond_f rfl (vb rfl c5)<|wp_exit ?_
    exact (then_x (then_x (hit_x ⟨_,rfl,⟨T,(by rw [hK1] at hm; exact hm)⟩⟩)))
   replace hm:=cT c5 hm
   have pc5:=of_decide_eq_true c5
   refine cond_t rfl (vb rfl c5)<|wp_skip<|then_n<|wp_seq<|wp_block<|wp_seq<|wp_rbd (by kernel_rfl) (by kernel_rfl)<|RQ.y rfl (Y.move (v:=.slice Aa0 d0.length ca0) s0_1)<|RQ.y rfl (Y.move (v:=.int .i64 i3) s5_1) ?_
   obtain ⟨x6,hx9,hm⟩:=bnd hm
   obtain ⟨k7,hk10,hl11,hx9⟩:=getI_some hx9
   obtain ⟨b13,o14,rfl,hbb13⟩:=ha0.addr (by omega)
   obtain ⟨cs8,hRcs8,hc12⟩:=ha0.el hx9
   have hScs8:=hRcs8
   obtain ⟨A15,n15,c15,rfl,⟨h15,r15⟩⟩:=hRcs8
   have e15:=h15.len; subst e15
   have q15:=len_le r15
   refine RQ.y rfl (Y.indexAddr (m:=k7) (sz:=2) rfl rfl hk10 hl11 (by kernel_rfl))<|RQ.y rfl (Y.loadN (cs:=[.string x6.name,.slice A15 x6.cons.length c15]) rfl (by kernel_rfl) (cells2 (beC (cellT T (hc12 0 _ rfl))) (beC (cellT T (hc12 1 _ rfl)))))<|RQ.y rfl (Y.move (v:=.slice Aa1 d1.length ca1) s1_1)<|RQ.y rfl (Y.move (v:=.int .i64 i3) s5_1) ?_
   obtain ⟨x16,hx19,hm⟩:=bnd hm
   obtain ⟨k17,hk20,hl21,hx19⟩:=getI_some hx19
   obtain ⟨b23,o24,rfl,hbb23⟩:=ha1.addr (by omega)
   obtain ⟨cs18,hRcs18,hc22⟩:=ha1.el hx19
   have hScs18:=hRcs18
   obtain ⟨A25,n25,c25,rfl,⟨h25,r25⟩⟩:=hRcs18
   have e25:=h25.len; subst e25
   have q25:=len_le r25
   refine RQ.y rfl (Y.indexAddr (m:=k17) (sz:=2) rfl rfl hk20 hl21 (by kernel_rfl))<|RQ.y rfl (Y.loadN (cs:=[.string x16.name,.slice A25 x16.cons.length c25]) rfl (by kernel_rfl) (cells2 (beC (cellT T (hc22 0 _ rfl))) (beC (cellT T (hc22 1 _ rfl))))) ?_
   obtain ⟨y26,e27,hm⟩:=bnd hm
   refine RQ.call rfl (am2 rfl rfl) (by kernel_rfl) (v:=.bool y26) (bel (K:=fun _=>True) fun w' hb'=>(c_m_laws_eqData x6 x16 _ e27 _ _ w' (stArg (R:=dataRd) ⟨_,_,_,rfl,⟨SlAt.now constructorRd_ok h15 (Nat.le_refl _) (Tt T hb'),r15⟩⟩) (stArg (R:=dataRd) ⟨_,_,_,rfl,⟨SlAt.now constructorRd_ok h25 (Nat.le_refl _) (Tt T hb'),r25⟩⟩)))<|RQ.y rfl (Y.not (b':=(!y26)) rfl rfl)<|RQ.nil ?_
   intro w28 hb29
   have szw28:=hb29.size
   have T:=Tt T hb29
   refine then_n ?_
   rcases bcases y26 with c30|c30
   ·replace hm:=cF c30 hm
    refine cond_t rfl (vbn rfl c30 rfl)<|wp_seq<|wp_rs rfl<|RQ.y rfl (Y.assign (v:=.bool false) rfl)<|RQ.nil<|then_n<|wp_ret ?_
    obtain rfl:=sj hm
    exact (blk_r (then_r (then_r (hit_r (blk_r (then_r (ret1 rfl rfl rfl ⟨rfl,T⟩)))))))
   replace hm:=cT c30 hm
   refine cond_f rfl (vbn rfl c30 rfl)<|wp_skip ?_
   refine blk_n (then_n ?_)
   refine wp_rs rfl<|RQ.y rfl (Y.move (v:=.int .i64 i3) s5_1)<|RQ.y rfl (Y.binI rfl rfl (binI_add (m:=i3) (by omega)))<|RQ.y rfl (Y.assign (v:=.int .i64 (i3+1)) rfl)<|RQ.nil ?_
   exact (then_n ⟨g,_,Nat.lt_succ_self _,rfl,⟨(i3+1),s0_1,s1_1,rfl,(by omega),T,(by rw [← hrec1]; exact hm)⟩⟩)
  replace hm:=cT c1 hm
  refine cond_t rfl (vb rfl c1)<|wp_seq<|wp_rs rfl<|RQ.y rfl (Y.assign (v:=.bool false) rfl)<|RQ.nil<|then_n<|wp_ret ?_
  obtain rfl:=sj hm
  exact (then_r (ret1 rfl rfl rfl ⟨rfl,T⟩))
noncomputable def m_laws_eqSignature (d0:DSignature) (d1:DSignature):Option Bool:=
  ((m_laws_eqDataS d0.datas d1.datas).bind fun y13=>(bif y13 then ((m_laws_eqTypeS (SizeOf.sizeOf d0.defs) d0.defs d1.defs).bind fun y18=>(bif y18 then some true else some false)) else some false))
set_option maxHeartbeats 2000000 in
theorem c_m_laws_eqSignature (d0:DSignature) (d1:DSignature) (r:Bool) (hm:m_laws_eqSignature d0 d1=some r) (v0:Value) (v1:Value) (w:World) (hv0:St signatureRd w v0 d0) (hv1:St signatureRd w v1 d1) :
    Calls Tryz.prog 13 #[v0,v1] w fun e w'=>e=.returned (.bool r)∧Below w.heap.size w w':=by
  obtain ⟨csa0,rfl,⟨A1,n1,c1,A2,n2,c2,rfl,⟨h1,r1⟩,⟨h2,r2⟩⟩⟩:=hv0
  have e1:=h1.len; subst e1
  have q1:=len_le r1
  have e2:=h2.len; subst e2
  have q2:=len_le r2
  obtain ⟨csa1,rfl,⟨A3,n3,c3,A4,n4,c4,rfl,⟨h3,r3⟩,⟨h4,r4⟩⟩⟩:=hv1
  have e3:=h3.len; subst e3
  have q3:=len_le r3
  have e4:=h4.len; subst e4
  have q4:=len_le r4
  have T:=Below.refl w.heap.size w
  unfold m_laws_eqSignature at hm
  refine enter 17 Tryz.func13 rfl rfl rfl ?_
  intro f hf
  have s0:f 0=.agg #[.slice A1 d0.datas.length c1,.slice A2 d0.defs.length c2]:=hf 0 _ rfl
  have s1:f 1=.agg #[.slice A3 d1.datas.length c3,.slice A4 d1.defs.length c4]:=hf 1 _ rfl
  refine wp_seq<|wp_rl rfl ?_
  refine RL.box rfl s0 (fun w5 B6 hb7 szw5=>?_)
  replace B6:Blk w5 w.heap.size 38 #[.slice A1 d0.datas.length c1,.slice A2 d0.defs.length c2]:=B6
  have GB6:w.heap.size≤w.heap.size:=T.size
  have T:=Tt T hb7
  refine RL.box rfl s1 (fun w9 B10 hb11 szw9=>?_)
  replace B10:Blk w9 w5.heap.size 38 #[.slice A3 d1.datas.length c3,.slice A4 d1.defs.length c4]:=B10
  have GB10:w.heap.size≤w5.heap.size:=T.size
  have Eob12_ob8:=Nat.ne_of_lt B6.lt
  have B6:=blkT B6 hb11
  have T:=Tt T hb11
  refine RL.y rfl (Y.assign (v:=.bool false) rfl)<|RL.nil<|then_n<|wp_seq<|wp_seq<|wp_rb rfl<|RQ.y rfl (Y.fieldAddr (off:=0) rfl (by kernel_rfl))<|RQ.y rfl (Y.load (v:=.slice A1 d0.datas.length c1) rfl (by kernel_rfl) (beC (blkCell B6 (i:=0) rfl)))<|RQ.y rfl (Y.fieldAddr (off:=0) rfl (by kernel_rfl))<|RQ.y rfl (Y.load (v:=.slice A3 d1.datas.length c3) rfl (by kernel_rfl) (beC (blkCell B10 (i:=0) rfl))) ?_
  obtain ⟨y13,e14,hm⟩:=bnd hm
  refine RQ.call rfl (am2 rfl rfl) (by kernel_rfl) (v:=.bool y13) (bel (K:=fun _=>True) fun w' hb'=>(c_m_laws_eqDataS d0.datas d1.datas _ e14 _ _ w' (slArg dataRd_ok h1 r1 (Tt T hb')) (slArg dataRd_ok h3 r3 (Tt T hb'))))<|RQ.y rfl (Y.not (b':=(!y13)) rfl rfl)<|RQ.nil ?_
  intro w15 hb16
  have szw15:=hb16.size
  have B6:=blkT B6 hb16
  have B10:=blkT B10 hb16
  have T:=Tt T hb16
  refine then_n ?_
  rcases bcases y13 with c17|c17
  ·replace hm:=cF c17 hm
   refine cond_t rfl (vbn rfl c17 rfl)<|wp_seq<|wp_rs rfl<|RQ.y rfl (Y.assign (v:=.bool false) rfl)<|RQ.nil<|then_n<|wp_ret ?_
   obtain rfl:=sj hm
   exact (then_r (ret1 rfl rfl rfl ⟨rfl,T⟩))
  replace hm:=cT c17 hm
  refine cond_f rfl (vbn rfl c17 rfl)<|wp_skip<|then_n<|wp_seq<|wp_seq<|wp_rb rfl<|RQ.y rfl (Y.fieldAddr (off:=1) rfl (by kernel_rfl))<|RQ.y rfl (Y.load (v:=.slice A2 d0.defs.length c2) rfl (by kernel_rfl) (beC (blkCell B6 (i:=1) rfl)))<|RQ.y rfl (Y.fieldAddr (off:=1) rfl (by kernel_rfl))<|RQ.y rfl (Y.load (v:=.slice A4 d1.defs.length c4) rfl (by kernel_rfl) (beC (blkCell B10 (i:=1) rfl))) ?_
  obtain ⟨y18,e19,hm⟩:=bnd hm
  refine RQ.call rfl (am2 rfl rfl) (by kernel_rfl) (v:=.bool y18) (bel (K:=fun _=>True) fun w' hb'=>(c_m_laws_eqTypeS (SizeOf.sizeOf d0.defs) d0.defs d1.defs _ e19 _ _ w' (slArg typeRd_ok h2 r2 (Tt T hb')) (slArg typeRd_ok h4 r4 (Tt T hb'))))<|RQ.y rfl (Y.not (b':=(!y18)) rfl rfl)<|RQ.nil ?_
  intro w20 hb21
  have szw20:=hb21.size
  have T:=Tt T hb21
  refine then_n ?_
  rcases bcases y18 with c22|c22
  ·replace hm:=cF c22 hm
   refine cond_t rfl (vbn rfl c22 rfl)<|wp_seq<|wp_rs rfl<|RQ.y rfl (Y.assign (v:=.bool false) rfl)<|RQ.nil<|then_n<|wp_ret ?_
   obtain rfl:=sj hm
   exact (then_r (ret1 rfl rfl rfl ⟨rfl,T⟩))
  replace hm:=cT c22 hm
  refine cond_f rfl (vbn rfl c22 rfl)<|wp_skip<|then_n<|wp_seq<|wp_rs rfl<|RQ.y rfl (Y.assign (v:=.bool true) rfl)<|RQ.nil<|then_n<|wp_ret ?_
  obtain rfl:=sj hm
  exact (ret1 rfl rfl rfl ⟨rfl,T⟩)
end
end Go.Proofs.YtpbobilkejblgaaGreat
